/-
  Ascending lists of edges: plain mathematics.
-/
import Derived.Test.YthlpndgfphjlkaaEdgeP
namespace Go.Proofs.Ythlpndgfphjlkaa
open Go.Sort Go.Shelf
set_option linter.unusedVariables false

theorem sortP_mem (l : List (Int × Int)) (x : Int × Int) : x ∈ sortP l ↔ x ∈ l := List.mem_mergeSort
theorem sortP_sorted (l : List (Int × Int)) : (sortP l).Pairwise fun a b => ltP b a = false := by
  have := List.pairwise_mergeSort (le := fun x y : Int × Int => !(ltOf cmpP) y x) (fun a b c h1 h2 => by
    simp only [Bool.not_eq_true', ltOf_cmpP] at *
    cases h : ltP c a with
    | false => rfl
    | true => simp [ltP] at *; omega) (fun a b => by
    simp only [Bool.or_eq_true, Bool.not_eq_true', ltOf_cmpP]
    cases h : ltP b a with
    | false => exact Or.inl rfl
    | true => exact Or.inr (totP.asymm h)) l
  refine this.imp ?_
  intro a b h
  simpa [ltOf_cmpP] using h
theorem cpTo_spec (l : List (Int × Int)) (hs : l.Pairwise fun a b => ltP b a = false) : ∀ m, m ≤ l.length → Asc ltP (cpTo l m) ∧ ∀ x, x ∈ cpTo l m ↔ x ∈ l.take m
  | 0, _ => ⟨by simp [cpTo, Asc], fun x => by simp [cpTo]⟩
  | m + 1, hm => by
    obtain ⟨h1, h2⟩ := cpTo_spec l hs m (by omega)
    have hle : ∀ i (hi : i < m), ltP l[m] l[i] = false := fun i hi => List.pairwise_iff_getElem.1 hs i m (by omega) (by omega) hi
    rw [cpTo, List.take_succ_eq_append_getElem (by omega)]
    by_cases hk : m = 0 ∨ l.getD m (0, 0) ≠ l.getD (m - 1) (0, 0)
    · rw [if_pos hk, getD_at (by omega)]
      refine ⟨?_, fun x => by rw [List.mem_append, List.mem_append, h2]⟩
      unfold Asc
      rw [List.pairwise_append]
      refine ⟨h1, by simp, fun a ha b hb => ?_⟩
      simp at hb
      subst hb
      obtain ⟨i, hi, rfl⟩ := List.getElem_of_mem ((h2 a).1 ha)
      rw [List.length_take] at hi
      rw [List.getElem_take]
      rcases hk with h0 | hne
      · omega
      · rw [getD_at (by omega), getD_at (by omega)] at hne
        cases h5 : ltP l[i] l[m] with
        | true => rfl
        | false =>
          exfalso
          have h6 := totP.tri _ _ h5 (hle i (by omega))
          have h7 := hle (m - 1) (by omega)
          by_cases e : i = m - 1
          · subst e; exact hne h6.symm
          · have h8 := List.pairwise_iff_getElem.1 hs i (m - 1) (by omega) (by omega) (by omega)
            rw [h6] at h8
            exact hne (totP.tri _ _ h7 h8)
    · rw [if_neg hk]
      have hm0 : m ≠ 0 := fun e => hk (Or.inl e)
      have he : l[m] = l[m - 1] := by
        by_cases e : l[m] = l[m - 1]
        · exact e
        · exact absurd (Or.inr (by rw [getD_at (by omega), getD_at (by omega)]; exact e)) hk
      refine ⟨h1, fun x => ?_⟩
      rw [h2, List.mem_append, List.mem_singleton]
      constructor
      · exact Or.inl
      · rintro (h3 | h3)
        · exact h3
        · rw [h3, he, List.mem_take_iff_getElem]
          exact ⟨m - 1, by omega, rfl⟩
theorem ascP_spec (l : List (Int × Int)) : Asc ltP (ascP l) ∧ ∀ x, x ∈ ascP l ↔ x ∈ l := by
  obtain ⟨h1, h2⟩ := cpTo_spec (sortP l) (sortP_sorted l) (sortP l).length (Nat.le_refl _)
  refine ⟨h1, fun x => ?_⟩
  unfold ascP compactP
  rw [h2, List.take_length, sortP_mem]
theorem ascP_len (l : List (Int × Int)) : (ascP l).length ≤ l.length := by
  unfold ascP compactP
  exact Nat.le_trans (cpTo_len _ _) (by rw [sortP_len]; exact Nat.le_refl _)
end Go.Proofs.Ythlpndgfphjlkaa
