/- Chapter 12: the answer's unused: what it returns. -/
import Derived.Test.YtmhdambkchlilaaGreatDoorJRcD1
import Derived.Test.YtmhdambkchlilaaGreatDoorJRcD2
import Derived.Test.YtmhdambkchlilaaGreatDoorJRcD3
namespace Go.Proofs.YtmhdambkchlilaaGreatDoor
open Go.RowKit
set_option linter.unusedVariables false
theorem refUnused_any (x : Ins) (AI : Option Addr) (cI : Nat) (w : World) :
  Calls Tryz.prog 268 #[.agg #[.int .i64 x.op,.int .i64 x.dst,.int .i64 x.a,.int .i64 x.b,.int .i64 x.n,.string x.cls,.string x.name,.slice AI x.args.length cI,.int .i64 x.jmp,.int .i64 x.hnd]] w fun e w' => e = .returned (.bool (zeroB x)) ∧ Below w.heap.size w w' := by
 rcases pat_cases x.op with H | H | H | H | H | H | H | H | H | H | H | H | H | H
 ·exact refUnused_0 x AI cI w H
 ·exact refUnused_1 x AI cI w H
 ·exact refUnused_2 x AI cI w H
 ·exact refUnused_3 x AI cI w H
 ·exact refUnused_4 x AI cI w H
 ·exact refUnused_5 x AI cI w H
 ·exact refUnused_6 x AI cI w H
 ·exact refUnused_7 x AI cI w H
 ·exact refUnused_8 x AI cI w H
 ·exact refUnused_9 x AI cI w H
 ·exact refUnused_10 x AI cI w H
 ·exact refUnused_11 x AI cI w H
 ·exact refUnused_12 x AI cI w H
 ·exact refUnused_13 x AI cI w H
end Go.Proofs.YtmhdambkchlilaaGreatDoor
