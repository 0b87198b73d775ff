/-
  Chapter 47: rows of findings that a call makes (their paths lie in old memory).
-/
import Derived.Test.YtlcdnkloijehjaaGreatDoorRepI
import Derived.Test.YtlcdnkloijehjaaGreatDoorNest
namespace Go.Proofs.YtlcdnkloijehjaaGreatDoor
open Go.RowKit
set_option linter.unusedVariables false

structure RFnd where
  kind : Int
  plc : Plc
  what : ByteArray
  A : Option Addr
  n : Nat
  c : Nat
def cellsRFnd (x : RFnd) : List Value := [.int .i64 x.kind, .string x.plc.cls, .string x.plc.mth, .int .i64 x.plc.ins, .string x.what, .slice x.A x.n x.c]
theorem cellsRFnd_ok : CellsOk cellsRFnd 6 := ⟨fun _ => rfl, fun _ u hu => by simp [cellsRFnd] at hu; rcases hu with rfl | rfl | rfl | rfl | rfl | rfl <;> rfl⟩
theorem fndsTy : ElemTy Tryz.prog 22 46 6 88 (.agg #[.int .i64 0, .string ByteArray.empty, .string ByteArray.empty, .int .i64 0, .string ByteArray.empty, .slice none 0 0]) := ⟨Tryz.underlying22, by kernel_rfl, rfl, by omega⟩
structure FndsAt (w : World) (rs : List RFnd) (l : List Fnd) : Prop where
  len : rs.length = l.length
  each : ∀ (i : Nat) r x, rs[i]? = some r → l[i]? = some x → Lay.fnd.rep w x (cellsRFnd r)
theorem FndsAt.nil {w : World} : FndsAt w [] [] := ⟨rfl, fun i r x h => by simp at h⟩
theorem FndsAt.mono {w w' : World} {rs : List RFnd} {l : List Fnd} (h : FndsAt w rs l) (hb : Below w.heap.size w w') : FndsAt w' rs l := ⟨h.len, fun i r x h1 h2 => Lay.fnd.mono hb (h.each i r x h1 h2)⟩
theorem FndsAt.snoc {w : World} {rs : List RFnd} {l : List Fnd} {r : RFnd} {x : Fnd} (h : FndsAt w rs l) (hx : Lay.fnd.rep w x (cellsRFnd r)) : FndsAt w (rs ++ [r]) (l ++ [x]) := by
  refine ⟨by simp [h.len], fun i a b h1 h2 => ?_⟩
  rcases Nat.lt_or_ge i rs.length with hi | hi
  · rw [List.getElem?_append_left hi] at h1
    rw [List.getElem?_append_left (by have := h.len; omega)] at h2
    exact h.each i a b h1 h2
  · have h3 := (List.getElem?_eq_some_iff.1 h1).1
    simp at h3
    have hi' : i = rs.length := by omega
    subst hi'
    rw [List.getElem?_append_right (Nat.le_refl _)] at h1
    rw [h.len, List.getElem?_append_right (Nat.le_refl _)] at h2
    simp at h1 h2
    subst h1 h2
    exact hx
end Go.Proofs.YtlcdnkloijehjaaGreatDoor
