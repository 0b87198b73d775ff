/-
  Maps keyed by strings. It holds no statement about the program.
-/
import Derived.Test.YthabojhnliomnaaGreatDoorMap
import Derived.Deep.Strs
namespace Go.Proofs.YthabojhnliomnaaGreatDoor
open Go.RowKit
set_option linter.unusedVariables false

theorem MapIs.made0 {α β : Type} {P : Program} {t k e : TypeId} {κ : α → Value} {okk : α → Prop} {lit : α → Lit} {ν : β → Value} {okv : β → Prop} {dat : β → DataW Unit} {zero : β} (T : MapTy P t k e κ okk lit ν okv dat zero) (w : World) {b : Nat} (h : w.heap.size = b) {f : α → Option β} (hf : ∀ x, f x = none) :
    MapIs T (w.alloc (.map #[] 0)) b 0 f := by
  subst h
  have : f = fun _ => none := funext hf
  rw [this]
  exact MapIs.made T w
def okStr (s : ByteArray) : Prop := s.size ≤ maxLen
/-- map[string]int. -/
theorem MapTy.str_int {P : Program} {t k e : TypeId} (ht : P.underlying t = some (.map k e)) (hk : P.underlying k = some .string) (he : P.underlying e = some (.int .i64)) (hz : ∀ w, (zeroValue e).run P w = .ok (.int .i64 0) w) :
    MapTy P t k e (fun x : ByteArray => .string x) okStr (fun x => .string x.data.toList) (fun y : Int => .int .i64 y) okInt (fun y => .lit (.int .i64 y)) 0 :=
  { under := ht, keyed := Maps.string_keyed hk, key := fun x hx => WideMaps.keyOf_string_mk hk hx, linj := fun x y h => by
      injection h with h
      exact ByteArray.ext (Array.toList_inj.1 h)
    val := fun y hy => plainElem_int he hy,
    inv := fun v y ps h => by
      obtain ⟨a, rfl, h2, _⟩ := plainElem_int_inv he h
      simp at h2
      obtain ⟨rfl, _⟩ := h2
      rfl
    zok := okInt_of (by omega) (by omega), zeros := hz }
end Go.Proofs.YthabojhnliomnaaGreatDoor
