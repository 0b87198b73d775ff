/- Chapter 13: unusedZero: what it returns. -/
import Derived.Test.YtmhdambkchlilaaGreatDoorJUchD1
import Derived.Test.YtmhdambkchlilaaGreatDoorJUchD2
import Derived.Test.YtmhdambkchlilaaGreatDoorJUchD3
namespace Go.Proofs.YtmhdambkchlilaaGreatDoor
open Go.RowKit
set_option linter.unusedVariables false
theorem ab0(x:Ins)(AI:Option Addr)(cI:Nat)(w:World)(hf:yw w) :
  Calls Tryz.prog 154 #[.agg #[.int .i64 x.op,.int .i64 x.dst,.int .i64 x.a,.int .i64 x.b,.int .i64 x.n,.string x.cls,.string x.name,.slice AI x.args.length cI,.int .i64 x.jmp,.int .i64 x.hnd]] w fun e w'=>e = .returned (.bool (zE x))∧Below w.heap.size w w':=by
 rcases acx x.op with H|H|H|H|H|H|H|H|H|H|H|H|H|H
 ·exact adE x AI cI w hf H
 ·exact adF x AI cI w hf H
 ·exact adG x AI cI w hf H
 ·exact adH x AI cI w hf H
 ·exact adI x AI cI w hf H
 ·exact adJ x AI cI w hf H
 ·exact adK x AI cI w hf H
 ·exact adL x AI cI w hf H
 ·exact adM x AI cI w hf H
 ·exact adN x AI cI w hf H
 ·exact ac6 x AI cI w hf H
 ·exact ac7 x AI cI w hf H
 ·exact ac8 x AI cI w hf H
 ·exact ac9 x AI cI w hf H
end Go.Proofs.YtmhdambkchlilaaGreatDoor
