/-
  Blocks of the call's own whose cells are known. It holds no statement about the program.
-/
import Derived.Test.YtlcdnkloijehjaaGreatDoorLib
import Derived.Deep.DeepCutAuto
import Derived.Deep.CutBlock
namespace Go.Proofs.YtlcdnkloijehjaaGreatDoor
open Go.RowKit
set_option linter.unusedVariables false

/-- Block b holds these cells, and none of them is frozen. -/
def Box (w : World) (b : Nat) (cs : List Value) (t : TypeId) : Prop := w.heap[b]? = some (.cells cs.toArray t (0, 0))
section
variable {w w' : World} {b : Nat} {cs : List Value} {t : TypeId}
theorem Box.lt (h : Box w b cs t) : b < w.heap.size := (Array.getElem?_eq_some_iff.1 h).1
theorem Box.cell (h : Box w b cs t) (i : Nat) {v : Value} (hi : cs[i]? = some v) : w.cell? ⟨b, i, none⟩ = some v := by
  have h' : w.heap[b]? = some (.cells cs.toArray t (0, 0)) := h
  unfold World.cell?
  simp only [h']
  simpa using hi
theorem Box.free (h : Box w b cs t) (i : Nat) : w.frozen? ⟨b, i, none⟩ = false := by
  have h' : w.heap[b]? = some (.cells cs.toArray t (0, 0)) := h
  unfold World.frozen?
  simp only [h']
  simp
theorem Box.below {B : Nat} (h : Box w b cs t) (hlt : b < B) (hb : Below B w w') : Box w' b cs t := (hb.block b hlt).trans h
theorem Box.mono (h : Box w b cs t) (hb : Below w.heap.size w w') : Box w' b cs t := h.below h.lt hb
theorem Box.grown {row : Option Nat} (h : Box w b cs t) (hg : w.grownBy w' row) (hne : some b ≠ row) : Box w' b cs t := (hg.block b h.lt hne).trans h
theorem Box.new (w : World) (cs : List Value) (t : TypeId) : Box (w.alloc (.cells cs.toArray t)) w.heap.size cs t := heap_alloc_new w _
theorem Box.at {w : World} {b : Nat} {cs : List Value} {t : TypeId} (h : w.heap.size = b) : Box (w.alloc (.cells cs.toArray t)) b cs t := by subst h; exact Box.new w cs t
theorem Box.alloc (h : Box w b cs t) (o : Obj) : Box (w.alloc o) b cs t := h.mono (bw_alloc (Below.refl _ _))
theorem Box.drew (h : Box w b cs t) : Box w.drew b cs t := h
theorem Box.set (h : Box w b cs t) (i : Nat) (v : Value) : Box (w.setCell ⟨b, i, none⟩ v) b (cs.set i v) t := by
  have h' : w.heap[b]? = some (.cells cs.toArray t (0, 0)) := h
  unfold Box World.setCell
  simp only [Array.getElem?_modify, if_true, h', Option.map_some]
  simp
theorem Box.setOther (h : Box w b cs t) {p : Addr} (hp : p.block ≠ b) (v : Value) : Box (w.setCell p v) b cs t := by
  have h' : w.heap[b]? = some (.cells cs.toArray t (0, 0)) := h
  unfold Box World.setCell
  simp only [Array.getElem?_modify, if_neg hp, h']
end
theorem keptC {w w' : World} {b o : Nat} {v : Value} (hc : w.cell? ⟨b, o, none⟩ = some v) (h : b < w.heap.size) (hb : Below w.heap.size w w') : w'.cell? ⟨b, o, none⟩ = some v := by rw [hb.cell h]; exact hc
theorem grown_set (w : World) (b i : Nat) (v : Value) : w.grownBy (w.setCell ⟨b, i, none⟩ v) (some b) := by
  refine ⟨rfl, rfl, rfl, by simp [World.setCell], fun k hk hne => ?_⟩
  unfold World.setCell
  simp only [Array.getElem?_modify]
  rw [if_neg (fun h => hne (by rw [h]))]
theorem grown_trans {w w1 w2 : World} {row : Option Nat} (h1 : w.grownBy w1 row) (h2 : w1.grownBy w2 row) : w.grownBy w2 row :=
  ⟨h2.os.trans h1.os, h2.tape.trans h1.tape, h2.output.trans h1.output, Nat.le_trans h1.size h2.size, fun k hk hne => (h2.block k (Nat.lt_of_lt_of_le hk h1.size) hne).trans (h1.block k hk hne)⟩
theorem grown_set2 (w : World) (b i j : Nat) (v u : Value) : w.grownBy ((w.setCell ⟨b, i, none⟩ v).setCell ⟨b, j, none⟩ u) (some b) := grown_trans (grown_set w b i v) (grown_set _ b j u)
theorem Box.store2 {w : World} {b : Nat} {a0 a1 : Value} {t : TypeId} (h : Box w b [a0, a1] t) (v0 v1 : Value) :
    Box ((w.setCell ⟨b, 0, none⟩ v0).setCell ⟨b, 1, none⟩ v1) b [v0, v1] t ∧ w.grownBy ((w.setCell ⟨b, 0, none⟩ v0).setCell ⟨b, 1, none⟩ v1) (some b) :=
  ⟨(h.set 0 v0).set 1 v1, grown_set2 _ _ _ _ _ _⟩
theorem Box.store3 {w : World} {b : Nat} {a0 a1 a2 : Value} {t : TypeId} (h : Box w b [a0, a1, a2] t) (v0 v1 v2 : Value) :
    Box (((w.setCell ⟨b, 0, none⟩ v0).setCell ⟨b, 1, none⟩ v1).setCell ⟨b, 2, none⟩ v2) b [v0, v1, v2] t ∧ w.grownBy (((w.setCell ⟨b, 0, none⟩ v0).setCell ⟨b, 1, none⟩ v1).setCell ⟨b, 2, none⟩ v2) (some b) :=
  ⟨((h.set 0 v0).set 1 v1).set 2 v2, grown_trans (grown_set2 _ _ _ _ _ _) (grown_set _ _ _ _)⟩
theorem Box.store4 {w : World} {b : Nat} {a0 a1 a2 a3 : Value} {t : TypeId} (h : Box w b [a0, a1, a2, a3] t) (v0 v1 v2 v3 : Value) :
    Box ((((w.setCell ⟨b, 0, none⟩ v0).setCell ⟨b, 1, none⟩ v1).setCell ⟨b, 2, none⟩ v2).setCell ⟨b, 3, none⟩ v3) b [v0, v1, v2, v3] t ∧ w.grownBy ((((w.setCell ⟨b, 0, none⟩ v0).setCell ⟨b, 1, none⟩ v1).setCell ⟨b, 2, none⟩ v2).setCell ⟨b, 3, none⟩ v3) (some b) :=
  ⟨(((h.set 0 v0).set 1 v1).set 2 v2).set 3 v3, grown_trans (grown_set2 _ _ _ _ _ _) (grown_set2 _ _ _ _ _ _)⟩
end Go.Proofs.YtlcdnkloijehjaaGreatDoor
