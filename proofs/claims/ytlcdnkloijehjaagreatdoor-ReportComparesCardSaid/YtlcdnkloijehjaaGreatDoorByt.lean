/-
  Bytes: strings as lists of bytes, joined words. It holds no statement about the program's chapters.
-/
import Derived.Test.YtlcdnkloijehjaaGreatDoorSortS
import Derived.Test.YtlcdnkloijehjaaGreatDoorNest
import Derived.WalkSmall
import Derived.Lib.ItoaLen
namespace Go.Proofs.YtlcdnkloijehjaaGreatDoor
open Go.RowKit
set_option linter.unusedVariables false

theorem toL_app (a b : ByteArray) : toL (a ++ b) = toL a ++ toL b := by unfold toL; rw [ByteArray.data_append, Array.toList_append]
theorem toL_mk (l : List UInt8) : toL ⟨l.toArray⟩ = l := rfl
theorem toL_len (a : ByteArray) : (toL a).length = a.size := by unfold toL; rw [Array.length_toList]; rfl
theorem mk_toL (a : ByteArray) : (⟨(toL a).toArray⟩ : ByteArray) = a := toL_inj rfl
def bsOf (l : List UInt8) : ByteArray := ⟨l.toArray⟩
theorem toL_bsOf (l : List UInt8) : toL (bsOf l) = l := rfl
theorem bsOf_toL {a : ByteArray} {l : List UInt8} (h : toL a = l) : a = bsOf l := by unfold bsOf; rw [← h, mk_toL]
theorem bsOf_size (l : List UInt8) : (bsOf l).size = l.length := by rw [← toL_len]; rfl
theorem flat_len {α : Type} (f : α → List UInt8) (m : Nat) : ∀ l : List α, (∀ x ∈ l, (f x).length ≤ m) → (l.flatMap f).length ≤ m * l.length
  | [], _ => by simp
  | x :: l, h => by
    rw [List.flatMap_cons, List.length_append, List.length_cons, Nat.mul_add]
    have h1 := h x (by simp)
    have h2 := flat_len f m l (fun y hy => h y (by simp [hy]))
    omega
theorem flat_take {α : Type} (f : α → List UInt8) {l : List α} {k : Nat} (h : k < l.length) : (l.take (k + 1)).flatMap f = (l.take k).flatMap f ++ f l[k] := by
  rw [List.take_succ_eq_append_getElem h, List.flatMap_append]
  simp
theorem joinS {w : World} {b o : Nat} (c : Nat) (l : List ByteArray) (sep : ByteArray) (hs : Sl Lay.str w (some ⟨b, o, none⟩) l) (h0 : 0 < l.length) (hc : l.length ≤ c) (hl : l.length ≤ 1000) (hz : (Lib.join (l.map toL) (toL sep)).length ≤ 140737488355328) :
    Calls Tryz.prog 31 #[.slice (some ⟨b, o, none⟩) l.length c, .string sep] w fun e w' => e = .returned (.string (bsOf (Lib.join (l.map toL) (toL sep)))) ∧ Below w.heap.size w w' := by
  refine Tryz.strings_Join b o c l sep w (fun j x hj => ?_) ?_ (by omega) hc hz
  · obtain ⟨hj2, rfl⟩ := List.getElem?_eq_some_iff.1 hj
    obtain ⟨b', o', e, _, hcl⟩ := hs.str_at hj2
    injection e with e
    injection e with e1 e2
    subst e1 e2
    exact hcl
  · obtain ⟨b', o', e, hlt, _⟩ := hs.str_at h0
    injection e with e
    injection e with e1 e2
    subst e1 e2
    exact hlt
theorem joinTail_flat (sep : List UInt8) : ∀ r : List (List UInt8), Lib.joinTail sep r = r.flatMap (fun x => sep ++ x)
  | [] => rfl
  | x :: r => by
    rw [List.flatMap_cons, ← joinTail_flat sep r]
    simp [Lib.joinTail]
/-- Words with a space between, and a line feed. -/
def lineT (ws : List (List UInt8)) : List UInt8 := Lib.join ws [32] ++ [10]
theorem lineT_two (a b : List UInt8) : lineT [a, b] = a ++ [32] ++ b ++ [10] := by
  unfold lineT
  rw [Lib.join_cons, joinTail_flat]
  simp
/-- A box of strings reads as a list. -/
theorem Box.strs {w : World} {b : Nat} {l : List ByteArray} {t : TypeId} (h : Box w b (l.map Value.string) t) : Sl Lay.str w (some ⟨b, 0, none⟩) l := fun i x hx => by
  refine ⟨b, 0, [.string x], rfl, h.lt, rfl, fun j v hj => ?_⟩
  have hj0 : j = 0 := by
    have := (List.getElem?_eq_some_iff.1 hj).1
    simp at this
    exact this
  subst hj0
  simp at hj
  subst hj
  rw [show (0 : Nat) + i * Lay.str.size + 0 = i by show 0 + i * 1 + 0 = i; omega]
  exact h.cell i (by rw [List.getElem?_map, hx]; rfl)
end Go.Proofs.YtlcdnkloijehjaaGreatDoor
