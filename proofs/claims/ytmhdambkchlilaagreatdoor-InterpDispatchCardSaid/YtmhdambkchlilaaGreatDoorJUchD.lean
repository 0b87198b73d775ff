/- Chapter 13: unusedZero: what it returns. -/
import Derived.Test.YtmhdambkchlilaaGreatDoorJUchD1
import Derived.Test.YtmhdambkchlilaaGreatDoorJUchD2
import Derived.Test.YtmhdambkchlilaaGreatDoorJUchD3
namespace Go.Proofs.YtmhdambkchlilaaGreatDoor
open Go.RowKit
set_option linter.unusedVariables false
theorem unusedZero_any (x : Ins) (AI : Option Addr) (cI : Nat) (w : World) (hf : FormX w) :
  Calls Tryz.prog 154 #[.agg #[.int .i64 x.op,.int .i64 x.dst,.int .i64 x.a,.int .i64 x.b,.int .i64 x.n,.string x.cls,.string x.name,.slice AI x.args.length cI,.int .i64 x.jmp,.int .i64 x.hnd]] w fun e w' => e = .returned (.bool (zeroB x)) ∧ Below w.heap.size w w' := by
 rcases pat_cases x.op with H | H | H | H | H | H | H | H | H | H | H | H | H | H
 ·exact unusedZero_0 x AI cI w hf H
 ·exact unusedZero_1 x AI cI w hf H
 ·exact unusedZero_2 x AI cI w hf H
 ·exact unusedZero_3 x AI cI w hf H
 ·exact unusedZero_4 x AI cI w hf H
 ·exact unusedZero_5 x AI cI w hf H
 ·exact unusedZero_6 x AI cI w hf H
 ·exact unusedZero_7 x AI cI w hf H
 ·exact unusedZero_8 x AI cI w hf H
 ·exact unusedZero_9 x AI cI w hf H
 ·exact unusedZero_10 x AI cI w hf H
 ·exact unusedZero_11 x AI cI w hf H
 ·exact unusedZero_12 x AI cI w hf H
 ·exact unusedZero_13 x AI cI w hf H
end Go.Proofs.YtmhdambkchlilaaGreatDoor
