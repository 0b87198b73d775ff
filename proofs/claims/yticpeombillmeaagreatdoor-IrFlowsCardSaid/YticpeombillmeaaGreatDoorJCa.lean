/-
  slices.Sort and slices.Compact at []int on slices that the call owns; ascending lists of numbers.
  slices.Sort and slices.Compact at []int: no other old block turns.
-/
import Derived.Sort.OwnSortedInts
import Derived.Lib.RowBridge
import Derived.Test.YticpeombillmeaaGreatDoorJGa
import Derived.Test.YticpeombillmeaaGreatDoorJShelf
namespace Go.Proofs.YticpeombillmeaaGreatDoor
open Go.RowKit Go.Sort
set_option linter.unusedVariables false

/-! ### Ascending lists -/
theorem asc_ext : ∀ {l m : List Int}, l.Pairwise (· < ·) → m.Pairwise (· < ·) → (∀ x, x ∈ l ↔ x ∈ m) → l = m
  | [], [], _, _, _ => rfl
  | [], b :: m, _, _, h => by have := (h b).2 (by simp); simp at this
  | a :: l, [], _, _, h => by have := (h a).1 (by simp); simp at this
  | a :: l, b :: m, hl, hm, h => by
    rw [List.pairwise_cons] at hl hm
    have hab : a = b := by
      have h1 := (h a).1 (by simp)
      have h2 := (h b).2 (by simp)
      simp only [List.mem_cons] at h1 h2
      rcases h1 with h1 | h1
      · exact h1
      · rcases h2 with h2 | h2
        · exact h2.symm
        · have h3 := hm.1 a h1
          have h4 := hl.1 b h2
          omega
    subst hab
    congr 1
    refine asc_ext hl.2 hm.2 fun x => ?_
    have hx := h x
    simp only [List.mem_cons] at hx
    constructor
    · intro h1
      rcases hx.1 (Or.inr h1) with h2 | h2
      · have := hl.1 x h1; omega
      · exact h2
    · intro h1
      rcases hx.2 (Or.inr h1) with h2 | h2
      · have := hm.1 x h1; omega
      · exact h2

theorem compactUpTo_spec (d : Array Int) (hs : ∀ i j, i ≤ j → j < d.size → d[i]! ≤ d[j]!) : ∀ m, m ≤ d.size → (Lib.compactUpTo d m).Pairwise (· < ·) ∧ ∀ x, x ∈ Lib.compactUpTo d m ↔ ∃ j, j < m ∧ d[j]! = x
  | 0, _ => ⟨by simp [Lib.compactUpTo], fun x => by simp [Lib.compactUpTo]⟩
  | m + 1, hm => by
    obtain ⟨h1, h2⟩ := compactUpTo_spec d hs m (by omega)
    rw [Lib.compactUpTo_succ]
    by_cases hk : Lib.keeps d m = true
    · rw [if_pos hk]
      unfold Lib.keeps at hk
      have hk' := of_decide_eq_true hk
      refine ⟨?_, fun x => ?_⟩
      · rw [List.pairwise_append]
        refine ⟨h1, by simp, fun a ha b hb => ?_⟩
        simp at hb
        subst hb
        obtain ⟨j, hj, rfl⟩ := (h2 a).1 ha
        rcases hk' with h0 | hne
        · omega
        · have h3 := hs j (m - 1) (by omega) (by omega)
          have h4 := hs (m - 1) m (by omega) (by omega)
          omega
      · rw [List.mem_append, h2]
        simp only [List.mem_singleton]
        constructor
        · rintro (⟨j, hj, e⟩ | e)
          · exact ⟨j, by omega, e⟩
          · exact ⟨m, by omega, e.symm⟩
        · rintro ⟨j, hj, e⟩
          by_cases hjm : j = m
          · subst hjm; exact Or.inr e.symm
          · exact Or.inl ⟨j, by omega, e⟩
    · rw [if_neg hk, List.append_nil]
      refine ⟨h1, fun x => ?_⟩
      rw [h2]
      unfold Lib.keeps at hk
      have hk' : ¬ (m = 0 ∨ d[m]! ≠ d[m - 1]!) := fun h => hk (decide_eq_true h)
      have hk2 : d[m]! = d[m - 1]! := by
        by_cases e : d[m]! = d[m - 1]!
        · exact e
        · exact absurd (Or.inr e) hk'
      have hm0 : m ≠ 0 := fun e => hk' (Or.inl e)
      constructor
      · rintro ⟨j, hj, e⟩; exact ⟨j, by omega, e⟩
      · rintro ⟨j, hj, e⟩
        by_cases hjm : j = m
        · subst hjm; exact ⟨j - 1, by omega, hk2.symm.trans e⟩
        · exact ⟨j, by omega, e⟩

def sortI (l : List Int) : List Int := l.mergeSort fun x y => decide (x ≤ y)
theorem sortI_len (l : List Int) : (sortI l).length = l.length := List.length_mergeSort l
theorem sortI_mem (l : List Int) (x : Int) : x ∈ sortI l ↔ x ∈ l := List.mem_mergeSort
theorem sortI_sorted (l : List Int) : (sortI l).Pairwise (· ≤ ·) := by
  have := List.pairwise_mergeSort (le := fun x y : Int => decide (x ≤ y)) (fun a b c h1 h2 => by simp at *; omega) (fun a b => by simp; omega) l
  refine this.imp ?_
  intro a b h
  simpa using h
/-- The different elements of a list, ascending. -/
def ascI (l : List Int) : List Int := Lib.compact (sortI l)
theorem ascI_spec (l : List Int) : (ascI l).Pairwise (· < ·) ∧ ∀ x, x ∈ ascI l ↔ x ∈ l := by
  have hs := sortI_sorted l
  have h := compactUpTo_spec (sortI l).toArray (fun i j hij hj => by
    have hj' : j < (sortI l).length := by simpa using hj
    have hi' : i < (sortI l).length := by omega
    rw [getElem!_pos _ i (by simpa using hi'), getElem!_pos _ j (by simpa using hj')]
    simp only [List.getElem_toArray]
    by_cases e : i = j
    · subst e; exact Int.le_refl _
    · exact List.pairwise_iff_getElem.1 hs i j hi' hj' (by omega)) (sortI l).length (by simp)
  refine ⟨h.1, fun x => ?_⟩
  rw [← sortI_mem l x]
  unfold ascI Lib.compact
  rw [h.2]
  constructor
  · rintro ⟨j, hj, e⟩
    rw [getElem!_pos _ j (by simpa using hj)] at e
    simp only [List.getElem_toArray] at e
    rw [← e]
    exact List.getElem_mem hj
  · intro hx
    obtain ⟨j, hj, e⟩ := List.getElem_of_mem hx
    exact ⟨j, hj, by rw [getElem!_pos _ j (by simpa using hj)]; simpa using e⟩
/-! ### The calls -/
theorem flatMap_cellsInt (l : List Int) : l.flatMap cellsInt = l.map (Value.int .i64) := flatMap_one (c := fun x => Value.int .i64 x) l

end Go.Proofs.YticpeombillmeaaGreatDoor
namespace Go.Proofs.YticpeombillmeaaGreatDoor
open Go.RowKit Go.Sort
set_option linter.unusedVariables false

theorem sortInts_ownG (v : Value) (l : List Int) (base : Nat) (w : World) (h : Own cellsInt 1 base 3 w v l) (hl : l.length < 4611686018427387904) :
    Calls Tryz.prog 42 #[v] w fun e w' => e = .returned (.tuple #[]) ∧ Own cellsInt 1 base 3 w' v (sortI l) ∧ w.grownBy w' v.ownBlock := by
  rcases h.2 with ⟨rfl, h0⟩ | ⟨g, cap, cur, rfl, hb, hg, h1, h2, h3, h4⟩
  · have : l = [] := List.eq_nil_of_length_eq_zero h0
    subst this
    refine (Tryz.slices_Sort_int_none none 0 w).mono ?_
    rintro e w' ⟨rfl, rfl⟩
    exact ⟨rfl, by simpa [sortI] using h, World.grownBy.refl _ _⟩
  · rw [flatMap_cellsInt, Nat.mul_one] at h4
    refine (Tryz.slices_Sort_int g 0 cap l w (holds_of_blockI hg h4) (Array.getElem?_eq_some_iff.1 hg).1 hl).mono ?_
    rintro e w' ⟨rfl, n, os, rfl⟩
    refine ⟨rfl, ?_, grownBy_sortedI _⟩
    have := ownsRow_sortedI (n := n) (os := os) (ts := sortI l) (sortI_len l) hb hg h1 h2 h3
    unfold Own
    rw [flatMap_cellsInt, sortI_len]
    exact this

theorem compactInts_ownG (v : Value) (l : List Int) (base : Nat) (w : World) (h : Own cellsInt 1 base 3 w v l) (hl : l.length ≤ 9223372036854775807) :
    Calls Tryz.prog 43 #[v] w fun e w' => (∃ v', e = .returned v' ∧ Own cellsInt 1 base 3 w' v' (Lib.compact l)) ∧ w.grownBy w' v.ownBlock := by
  rcases h.2 with ⟨rfl, h0⟩ | ⟨g, cap, cur, rfl, hb, hg, h1, h2, h3, h4⟩
  · have : l = [] := List.eq_nil_of_length_eq_zero h0
    subst this
    refine (Tryz.slices_Compact_int_empty none 0 w).mono ?_
    rintro e w' ⟨rfl, rfl⟩
    exact ⟨⟨_, rfl, h⟩, World.grownBy.refl _ _⟩
  · rw [flatMap_cellsInt, Nat.mul_one] at h4
    refine (Tryz.slices_Compact_int g 0 cap l w (holds_of_blockI hg h4) hl h1).mono ?_
    rintro e w' ⟨rfl, q, rfl⟩
    have hcl := Lib.compact_length_le l
    have hgr := grownBy_sortedI (w := w) (g := g) (n := q) (os := #[]) (Lib.compact l ++ List.replicate (l.length - (Lib.compact l).length) 0).toArray
    rw [grow_empty] at hgr
    refine ⟨⟨_, rfl, ?_⟩, hgr⟩
    have := ownsRow_sortedI (n := q) (os := #[]) (ts := Lib.compact l ++ List.replicate (l.length - (Lib.compact l).length) 0) (by rw [List.length_append, List.length_replicate]; omega) hb hg h1 h2 h3
    rw [grow_empty] at this
    rcases this.2 with ⟨hn, _⟩ | ⟨g', cap', cur', hv, hb', hg', h1', h2', h3', h4'⟩
    · cases hn
    · simp only [Value.slice.injEq, Option.some.injEq, Addr.mk.injEq] at hv
      obtain ⟨⟨rfl, -, -⟩, -, rfl⟩ := hv
      refine ⟨by rw [flatMap_cellsInt]; simp, Or.inr ⟨g, cap, cur', rfl, hb', hg', by omega, h2', h3', ?_⟩⟩
      rw [flatMap_cellsInt, Nat.mul_one]
      rw [Nat.mul_one] at h4'
      have e1 : cur'.toList.take (Lib.compact l).length = (cur'.toList.take l.length).take (Lib.compact l).length := by rw [List.take_take, Nat.min_eq_left hcl]
      rw [e1, h4', List.map_append, List.take_left' (by simp)]
end Go.Proofs.YticpeombillmeaaGreatDoor
