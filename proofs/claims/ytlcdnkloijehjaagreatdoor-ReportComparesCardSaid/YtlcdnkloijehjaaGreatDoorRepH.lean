/-
  Chapter 47: the check of a report, plain.
-/
import Derived.Test.YtlcdnkloijehjaaGreatDoorRepG
namespace Go.Proofs.YtlcdnkloijehjaaGreatDoor
open Go.RowKit
set_option linter.unusedVariables false

/-- The first error of findings. -/
def fndsE : List Fnd → Int
  | [] => 0
  | x :: l => thenI (fndE x) (fndsE l)
theorem fndsE_step {l : List Fnd} {k : Nat} (h : k < l.length) : fndsE (l.drop k) = thenI (fndE l[k]) (fndsE (l.drop (k + 1))) := by
  rw [List.drop_eq_getElem_cons h]
  rfl
theorem fndsE_end {l : List Fnd} {k : Nat} (h : ¬ k < l.length) : fndsE (l.drop k) = 0 := by
  rw [List.drop_eq_nil_of_le (by omega)]
  rfl
/-- Each finding is less than the next. -/
def risesB : List Fnd → Bool
  | [] => true
  | [_] => true
  | x :: y :: l => decide (cmpF x y < 0) && risesB (y :: l)
def hidden (r : Rpt) : List Fnd := r.hdn.map (·.f)
def bothB (l m : List Fnd) : Bool := l.any fun x => m.any fun y => decide (cmpF y x = 0)
end Go.Proofs.YtlcdnkloijehjaaGreatDoor
