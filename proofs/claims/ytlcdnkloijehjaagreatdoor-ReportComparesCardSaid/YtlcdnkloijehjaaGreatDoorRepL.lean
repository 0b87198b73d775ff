/-
  Chapter 47: the notes of a report, plain.
-/
import Derived.Test.YtlcdnkloijehjaaGreatDoorRepK
namespace Go.Proofs.YtlcdnkloijehjaaGreatDoor
open Go.RowKit
set_option linter.unusedVariables false

def offB (n : Int) : Bool := decide (n < 0) || decide (200 ≤ n)
def noteBad (H : List Hdn) : Bool := H.any fun h => offB h.note
def unsBad (U : List Int) : Bool := U.any offB
def ascI : List Int → Bool
  | [] => true
  | [_] => true
  | x :: y :: l => decide (x < y) && ascI (y :: l)
def hitN (H : List Hdn) (n : Int) : Bool := H.any fun h => h.note == n
def hitU (H : List Hdn) (U : List Int) : Bool := U.any (hitN H)
def noteE (H : List Hdn) (U : List Int) : Int := if noteBad H then 4 else if unsBad U then 4 else if ascI U then (if hitU H U then 20 else 0) else 13
theorem anyT_succ {α : Type} {l : List α} {f : α → Bool} {k : Nat} (h : k < l.length) : (l.take (k + 1)).any f = ((l.take k).any f || f l[k]) := by
  rw [List.take_succ_eq_append_getElem h, List.any_append]
  simp
theorem anyT_yes {α : Type} {l : List α} {f : α → Bool} {k : Nat} (h : k < l.length) (hf : f l[k] = true) : l.any f = true := List.any_eq_true.2 ⟨l[k], List.getElem_mem h, hf⟩
theorem ascI_step {l : List Int} {k : Nat} (h : k + 1 < l.length) : ascI (l.drop k) = (decide ((l[k]'(by omega)) < l[k + 1]) && ascI (l.drop (k + 1))) := by
  rw [List.drop_eq_getElem_cons (show k < l.length by omega), List.drop_eq_getElem_cons h]
  rfl
theorem ascI_end {l : List Int} {k : Nat} (h : l.length ≤ k + 1) : ascI (l.drop k) = true := by
  rcases Nat.lt_or_ge k l.length with h1 | h1
  · rw [List.drop_eq_getElem_cons h1, List.drop_eq_nil_of_le h]; rfl
  · rw [List.drop_eq_nil_of_le h1]; rfl
theorem boolTy : ElemTy Tryz.prog 99 4 1 1 (.bool false) := ⟨Tryz.underlying99, by kernel_rfl, rfl, by omega⟩
end Go.Proofs.YtlcdnkloijehjaaGreatDoor
