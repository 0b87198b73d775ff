/-
  slices.Sort and slices.Compact at []int: no other old block turns.
-/
import Derived.Test.YthlpndgfphjlkaaSortI
namespace Go.Proofs.Ythlpndgfphjlkaa
open Go.RowKit Go.Sort
set_option linter.unusedVariables false

theorem Own.grown_below {α : Type} {cells : α → List Value} {size base : Nat} {e : TypeId} {w w' : World} {v : Value} {l : List α} (h : Own cells size base e w v l) (hg : w.grownBy w' v.ownBlock) (hb : base ≤ w.heap.size) : RowKit.Below base w w' :=
  (Below.refl _ _).grown hg hb fun k hk => (World.ownsRow.lt h k hk).1

theorem sortInts_ownG (v : Value) (l : List Int) (base : Nat) (w : World) (h : Own cellsInt 1 base 3 w v l) (hl : l.length < 4611686018427387904) :
    Calls Try.prog 47 #[v] w fun e w' => e = .returned (.tuple #[]) ∧ Own cellsInt 1 base 3 w' v (sortI l) ∧ w.grownBy w' v.ownBlock := by
  rcases h.2 with ⟨rfl, h0⟩ | ⟨g, cap, cur, rfl, hb, hg, h1, h2, h3, h4⟩
  · have : l = [] := List.eq_nil_of_length_eq_zero h0
    subst this
    refine (Try.slices_Sort_int_none none 0 w).mono ?_
    rintro e w' ⟨rfl, rfl⟩
    exact ⟨rfl, by simpa [sortI] using h, World.grownBy.refl _ _⟩
  · rw [flatMap_cellsInt, Nat.mul_one] at h4
    refine (Try.slices_Sort_int g 0 cap l w (holds_of_blockI hg h4) (Array.getElem?_eq_some_iff.1 hg).1 hl).mono ?_
    rintro e w' ⟨rfl, n, os, rfl⟩
    refine ⟨rfl, ?_, grownBy_sortedI _⟩
    have := ownsRow_sortedI (n := n) (os := os) (ts := sortI l) (sortI_len l) hb hg h1 h2 h3
    unfold Own
    rw [flatMap_cellsInt, sortI_len]
    exact this

theorem compactInts_ownG (v : Value) (l : List Int) (base : Nat) (w : World) (h : Own cellsInt 1 base 3 w v l) (hl : l.length ≤ 9223372036854775807) :
    Calls Try.prog 48 #[v] w fun e w' => (∃ v', e = .returned v' ∧ Own cellsInt 1 base 3 w' v' (Lib.compact l)) ∧ w.grownBy w' v.ownBlock := by
  rcases h.2 with ⟨rfl, h0⟩ | ⟨g, cap, cur, rfl, hb, hg, h1, h2, h3, h4⟩
  · have : l = [] := List.eq_nil_of_length_eq_zero h0
    subst this
    refine (Try.slices_Compact_int_empty none 0 w).mono ?_
    rintro e w' ⟨rfl, rfl⟩
    exact ⟨⟨_, rfl, h⟩, World.grownBy.refl _ _⟩
  · rw [flatMap_cellsInt, Nat.mul_one] at h4
    refine (Try.slices_Compact_int g 0 cap l w (holds_of_blockI hg h4) hl h1).mono ?_
    rintro e w' ⟨rfl, q, rfl⟩
    have hcl := Lib.compact_length_le l
    have hgr := grownBy_sortedI (w := w) (g := g) (n := q) (os := #[]) (Lib.compact l ++ List.replicate (l.length - (Lib.compact l).length) 0).toArray
    rw [grow_empty] at hgr
    refine ⟨⟨_, rfl, ?_⟩, hgr⟩
    have := ownsRow_sortedI (n := q) (os := #[]) (ts := Lib.compact l ++ List.replicate (l.length - (Lib.compact l).length) 0) (by rw [List.length_append, List.length_replicate]; omega) hb hg h1 h2 h3
    rw [grow_empty] at this
    rcases this.2 with ⟨hn, _⟩ | ⟨g', cap', cur', hv, hb', hg', h1', h2', h3', h4'⟩
    · cases hn
    · simp only [Value.slice.injEq, Option.some.injEq, Addr.mk.injEq] at hv
      obtain ⟨⟨rfl, -, -⟩, -, rfl⟩ := hv
      refine ⟨by rw [flatMap_cellsInt]; simp, Or.inr ⟨g, cap, cur', rfl, hb', hg', by omega, h2', h3', ?_⟩⟩
      rw [flatMap_cellsInt, Nat.mul_one]
      rw [Nat.mul_one] at h4'
      have e1 : cur'.toList.take (Lib.compact l).length = (cur'.toList.take l.length).take (Lib.compact l).length := by rw [List.take_take, Nat.min_eq_left hcl]
      rw [e1, h4', List.map_append, List.take_left' (by simp)]
end Go.Proofs.Ythlpndgfphjlkaa
