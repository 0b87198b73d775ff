/-
  Rows of structs that the library's sort has sorted, as slices that the call owns. It holds no statement about the program.
-/
import Derived.Test.YthlpndgfphjlkaaLibE
import Derived.Shelf.GgSortFunc.InsertionK
import Derived.Sort.OwnSortedInts
namespace Go.Proofs.Ythlpndgfphjlkaa
open Go.RowKit Go.Sort Go.Proofs Go.Shelf
set_option linter.unusedVariables false

theorem flatK_list {α : Type} [Inhabited α] {cells : α → List Value} {k : Nat} (hk : ∀ x, (cells x).length = k) (hp : 0 < k) (l : List α) : (flatK cells k l.toArray).toList = l.flatMap cells := by
  have hat : ∀ (l : List α) (q m : Nat) (hq : q < l.length), m < k → (l.flatMap cells)[q * k + m]? = (cells l[q])[m]? := by
    intro l
    induction l with
    | nil => intro q m hq; simp at hq
    | cons x rr ih =>
      intro q m hq hm
      cases q with
      | zero => rw [List.flatMap_cons, Nat.zero_mul, Nat.zero_add, List.getElem?_append_left (by rw [hk]; exact hm)]; rfl
      | succ q =>
        rw [List.flatMap_cons, List.getElem?_append_right (by rw [hk, Nat.succ_mul]; omega), hk, show (q + 1) * k + m - k = q * k + m by rw [Nat.succ_mul]; omega, ih q m (by simpa using hq) hm]
        rfl
  apply List.ext_getElem?
  intro j
  by_cases hj : j < l.length * k
  · have hq : j / k < l.length := by rw [Nat.div_lt_iff_lt_mul hp]; exact hj
    have hm := Nat.mod_lt j hp
    have hdm : j / k * k + j % k = j := by rw [Nat.mul_comm]; exact Nat.div_add_mod j k
    have h5 := hat l (j / k) (j % k) hq hm
    rw [hdm] at h5
    rw [h5, Array.getElem?_toList, Array.getElem?_eq_getElem (by rw [size_flatK]; simpa using hj)]
    have h6 := get_flatK cells k l.toArray j (by simpa using hj)
    rw [getElem!_pos _ j (by rw [size_flatK]; simpa using hj)] at h6
    rw [h6, getElem!_pos l.toArray (j / k) (by simpa using hq)]
    rw [getElem!_pos _ (j % k) (by rw [hk]; exact hm), List.getElem?_eq_getElem (by rw [hk]; exact hm)]
    simp
  · rw [List.getElem?_eq_none (by rw [Array.length_toList, size_flatK]; simpa using hj), List.getElem?_eq_none (by rw [flatMap_len hk]; omega)]

theorem holdsK_of_own {α : Type} [Inhabited α] {cells : α → List Value} {k base : Nat} (hk : ∀ x, (cells x).length = k) (hp : 0 < k) {e : TypeId} {w : World} {g n cap : Nat} {l : List α} (h : Own cells k base e w (.slice (some ⟨g, 0, none⟩) n cap) l) : HoldsK cells k w g 0 l.toArray := by
  obtain ⟨hbg, hrn, cur, hg, h1, h2, h3, h4⟩ := h.whole
  intro j hj
  rw [size_flatK] at hj
  have hj' : j < n * k := by rw [← hrn]; simpa using hj
  refine ⟨?_, by simp [World.frozen?, hg]⟩
  have h5 : (cur.toList.take (n * k))[j]? = (flatK cells k l.toArray).toList[j]? := by rw [h4, flatK_list hk hp]
  rw [List.getElem?_take_of_lt hj', Array.getElem?_toList, Array.getElem?_toList] at h5
  simp only [World.cell?, hg, Nat.zero_add, Option.isSome_none, Bool.false_eq_true, if_false]
  rw [h5, Array.getElem?_eq_getElem (by rw [size_flatK]; exact hj), getElem!_pos _ j (by rw [size_flatK]; exact hj)]
  rfl

theorem own_of_sortK {α : Type} [Inhabited α] {cells : α → List Value} {k base : Nat} (hk : ∀ x, (cells x).length = k) (hp : 0 < k) {e : TypeId} {w : World} {g cap q : Nat} {n : Nat} {os : Array Obj} {l ts : List α} (h : Own cells k base e w (.slice (some ⟨g, 0, none⟩) n cap) l) (hl : ts.length = l.length) :
    Own cells k base e (sortWorldK cells k w g 0 q ts.toArray os) (.slice (some ⟨g, 0, none⟩) n cap) ts ∧ Below base w (sortWorldK cells k w g 0 q ts.toArray os) := by
  obtain ⟨hbg, hrn, cur, hg, h1, h2, h3, h4⟩ := h.whole
  have hgl : g < w.heap.size := (Array.getElem?_eq_some_iff.1 hg).1
  have hF := flatK_list hk hp ts
  have hFs : (flatK cells k ts.toArray).size = n * k := by rw [size_flatK]; simp [hl, hrn]
  have hheap : (sortWorldK cells k w g 0 q ts.toArray os).heap[g]? = some (.cells (putCells id 0 (flatK cells k ts.toArray) cur) e (0, 0)) := by
    unfold sortWorldK putRowK
    rw [heap_grow_old _ _ (by simpa using hgl)]
    simp [putRow, mapBlock, Sort.ahead, Array.getElem?_modify, hg, onCells]
  have hgr : w.grownBy (sortWorldK cells k w g 0 q ts.toArray os) (some g) := by
    unfold sortWorldK putRowK
    refine ⟨rfl, rfl, rfl, by simp, fun i hi hne => ?_⟩
    rw [heap_grow_old _ _ (by simpa using hi)]
    have : g ≠ i := fun e => hne (by rw [e])
    simp [putRow, mapBlock, Sort.ahead, Array.getElem?_modify, this]
  refine ⟨⟨by rw [flatMap_len hk], Or.inr ⟨g, cap, _, by rw [hl, hrn], hbg, hheap, by omega, h2, by simp [putCells, h3], ?_⟩⟩, (Below.refl _ _).grown hgr (by omega) (fun i hi => by injection hi with hi; omega)⟩
  have hle : n * k ≤ cap * k := Nat.mul_le_mul_right _ h1
  rw [hl, hrn, ← hF]
  apply List.ext_getElem?
  intro j
  by_cases hj : j < n * k
  · rw [List.getElem?_take_of_lt hj, Array.getElem?_toList, Array.getElem?_toList]
    have hjc : j < cur.size := by omega
    simp [putCells, hFs, hj, hjc]
  · rw [List.getElem?_take_eq_none (by omega), List.getElem?_eq_none (by simp [hFs]; omega)]
end Go.Proofs.Ythlpndgfphjlkaa
