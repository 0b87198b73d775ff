/-
  Chapter 29: ascending lists of pairs, and what composition is: plain mathematics.
-/
import Derived.Test.YtcmooklcaeggbaaFlowP
import Derived.Test.YtcmooklcaeggbaaFlowR
import Derived.Test.YtcmooklcaeggbaaSortI
namespace Go.Proofs.Ytcmooklcaeggbaa
open Go.Sort Go.Shelf
set_option linter.unusedVariables false

theorem sortP_mem (l : List (Int × Int)) (x : Int × Int) : x ∈ sortP l ↔ x ∈ l := List.mem_mergeSort
theorem sortP_sorted (l : List (Int × Int)) : (sortP l).Pairwise fun a b => ltP b a = false := by
  have := List.pairwise_mergeSort (le := fun x y : Int × Int => !(ltOf cmpP) y x) (fun a b c h1 h2 => by
    simp only [Bool.not_eq_true', ltOf_cmpP] at *
    cases h : ltP c a with
    | false => rfl
    | true => simp [ltP] at *; omega) (fun a b => by
    simp only [Bool.or_eq_true, Bool.not_eq_true', ltOf_cmpP]
    cases h : ltP b a with
    | false => exact Or.inl rfl
    | true => exact Or.inr (totP.asymm h)) l
  refine this.imp ?_
  intro a b h
  simpa [ltOf_cmpP] using h
theorem cpTo_spec (l : List (Int × Int)) (hs : l.Pairwise fun a b => ltP b a = false) : ∀ m, m ≤ l.length → Asc ltP (cpTo l m) ∧ ∀ x, x ∈ cpTo l m ↔ x ∈ l.take m
  | 0, _ => ⟨by simp [cpTo, Asc], fun x => by simp [cpTo]⟩
  | m + 1, hm => by
    obtain ⟨h1, h2⟩ := cpTo_spec l hs m (by omega)
    have hle : ∀ i (hi : i < m), ltP l[m] l[i] = false := fun i hi => List.pairwise_iff_getElem.1 hs i m (by omega) (by omega) hi
    rw [cpTo, List.take_succ_eq_append_getElem (by omega)]
    by_cases hk : m = 0 ∨ l.getD m (0, 0) ≠ l.getD (m - 1) (0, 0)
    · rw [if_pos hk, getD_at (by omega)]
      refine ⟨?_, fun x => by rw [List.mem_append, List.mem_append, h2]⟩
      unfold Asc
      rw [List.pairwise_append]
      refine ⟨h1, by simp, fun a ha b hb => ?_⟩
      simp at hb
      subst hb
      obtain ⟨i, hi, rfl⟩ := List.getElem_of_mem ((h2 a).1 ha)
      rw [List.length_take] at hi
      rw [List.getElem_take]
      rcases hk with h0 | hne
      · omega
      · rw [getD_at (by omega), getD_at (by omega)] at hne
        cases h5 : ltP l[i] l[m] with
        | true => rfl
        | false =>
          exfalso
          have h6 := totP.tri _ _ h5 (hle i (by omega))
          have h7 := hle (m - 1) (by omega)
          by_cases e : i = m - 1
          · subst e; exact hne h6.symm
          · have h8 := List.pairwise_iff_getElem.1 hs i (m - 1) (by omega) (by omega) (by omega)
            rw [h6] at h8
            exact hne (totP.tri _ _ h7 h8)
    · rw [if_neg hk]
      have hm0 : m ≠ 0 := fun e => hk (Or.inl e)
      have he : l[m] = l[m - 1] := by
        by_cases e : l[m] = l[m - 1]
        · exact e
        · exact absurd (Or.inr (by rw [getD_at (by omega), getD_at (by omega)]; exact e)) hk
      refine ⟨h1, fun x => ?_⟩
      rw [h2, List.mem_append, List.mem_singleton]
      constructor
      · exact Or.inl
      · rintro (h3 | h3)
        · exact h3
        · rw [h3, he, List.mem_take_iff_getElem]
          exact ⟨m - 1, by omega, rfl⟩
theorem ascP_spec (l : List (Int × Int)) : Asc ltP (ascP l) ∧ ∀ x, x ∈ ascP l ↔ x ∈ l := by
  obtain ⟨h1, h2⟩ := cpTo_spec (sortP l) (sortP_sorted l) (sortP l).length (Nat.le_refl _)
  refine ⟨h1, fun x => ?_⟩
  unfold ascP compactP
  rw [h2, List.take_length, sortP_mem]
theorem ascP_len (l : List (Int × Int)) : (ascP l).length ≤ l.length := by
  unfold ascP compactP
  exact Nat.le_trans (cpTo_len _ _) (by rw [sortP_len]; exact Nat.le_refl _)
theorem Asc.rises {f : List (Int × Int)} (h : Asc ltP f) : Rises f := fun i j hi hj hij => by
  by_cases e : i = j
  · subst e; exact Int.le_refl _
  · have := List.pairwise_iff_getElem.1 h i j hi hj (by omega)
    simp [ltP] at this
    omega
theorem withIn_mem {f : List (Int × Int)} {d c : Int} : c ∈ (withIn f d).map (·.2) ↔ (d, c) ∈ f := by
  unfold withIn
  simp only [List.mem_map, List.mem_filter, beq_iff_eq]
  constructor
  · rintro ⟨p, ⟨h1, h2⟩, rfl⟩; rw [← h2]; exact h1
  · intro h; exact ⟨(d, c), ⟨h, rfl⟩, rfl⟩

/-- The pairs of a composition. -/
def comps (f g : List (Int × Int)) (p : Int × Int) : Prop := ∃ b, (p.1, b) ∈ f ∧ (b, p.2) ∈ g
/-- After the first k pairs of the first list. -/
structure CInv (F G : List (Int × Int)) (k : Nat) (R : List (Int × Int)) : Prop where
  asc : Asc ltP R
  mem : ∀ p, p ∈ R ↔ comps (F.take k) G p
  sep : ∀ p ∈ R, ∀ i (hi : i < F.length), k ≤ i → p.1 < F[i].1
theorem CInv.start (F G : List (Int × Int)) : CInv F G 0 [] := ⟨by simp [Asc], fun p => by simp [comps], fun p hp => by simp at hp⟩
theorem CInv.step {F G R : List (Int × Int)} {k k' : Nat} {a : Int} {O : List Int} (h : CInv F G k R) (hF : Asc ltP F) (hk : k < k') (hk' : k' ≤ F.length) (hin : ∀ i (hi : i < F.length), k ≤ i → i < k' → F[i].1 = a) (hout : ∀ hi : k' < F.length, F[k'].1 ≠ a)
    (hO : ∀ c, c ∈ O ↔ ∃ b, (a, b) ∈ (F.take k').drop k ∧ (b, c) ∈ G) : CInv F G k' (R ++ (ascI O).map fun c => (a, c)) := by
  obtain ⟨o1, o2⟩ := ascI_spec O
  have hka : F[k].1 = a := hin k (by omega) (Nat.le_refl _) hk
  have hsplit : ∀ q, q ∈ F.take k' ↔ q ∈ F.take k ∨ q ∈ (F.take k').drop k := fun q => by
    have e : F.take k' = F.take k ++ (F.take k').drop k := by
      have a1 : F.take k = (F.take k').take k := by rw [List.take_take, Nat.min_eq_left (by omega)]
      rw [a1, List.take_append_drop]
    constructor
    · intro hq; rw [e] at hq; exact List.mem_append.1 hq
    · intro hq; rw [e]; exact List.mem_append.2 hq
  have hdrop : ∀ q, q ∈ (F.take k').drop k → q.1 = a := fun q hq => by
    obtain ⟨i, hi, rfl⟩ := List.getElem_of_mem hq
    rw [List.length_drop, List.length_take] at hi
    rw [List.getElem_drop, List.getElem_take]
    exact hin (k + i) (by omega) (by omega) (by omega)
  refine ⟨?_, fun p => ?_, fun p hp i hi hki => ?_⟩
  · unfold Asc
    rw [List.pairwise_append]
    refine ⟨h.asc, ?_, fun p hp q hq => ?_⟩
    · rw [List.pairwise_map]
      refine o1.imp ?_
      intro x y hxy
      simp [ltP, hxy]
    · obtain ⟨c, _, rfl⟩ := List.mem_map.1 hq
      have := h.sep p hp k (by omega) (Nat.le_refl _)
      rw [hka] at this
      simp [ltP, this]
  · rw [List.mem_append, h.mem]
    simp only [List.mem_map, o2, hO]
    constructor
    · rintro (⟨b, h1, h2⟩ | ⟨c, ⟨b, h1, h2⟩, rfl⟩)
      · exact ⟨b, (hsplit _).2 (Or.inl h1), h2⟩
      · exact ⟨b, (hsplit _).2 (Or.inr h1), h2⟩
    · rintro ⟨b, h1, h2⟩
      rcases (hsplit _).1 h1 with h3 | h3
      · exact Or.inl ⟨b, h3, h2⟩
      · have h4 := hdrop _ h3
        refine Or.inr ⟨p.2, ⟨b, ?_, h2⟩, Prod.ext h4.symm rfl⟩
        rw [← h4]; exact h3
  · rw [List.mem_append] at hp
    rcases hp with hp | hp
    · exact h.sep p hp i hi (by omega)
    · obtain ⟨c, _, rfl⟩ := List.mem_map.1 hp
      have h1 := hF.rises k' i (by omega) hi hki
      have h2 := hout (by omega)
      have h3 := hF.rises k k' (by omega) (by omega) (by omega)
      simp only
      omega
/-- The composition, as one ascending list. -/
def compS (f g : List (Int × Int)) : List (Int × Int) := ascP (f.flatMap fun p => (withIn g p.2).map fun q => (p.1, q.2))
theorem compS_mem (f g : List (Int × Int)) (p : Int × Int) : p ∈ compS f g ↔ comps f g p := by
  unfold compS
  rw [(ascP_spec _).2, List.mem_flatMap]
  unfold comps
  constructor
  · rintro ⟨q, hq, h⟩
    obtain ⟨r, hr, rfl⟩ := List.mem_map.1 h
    refine ⟨q.2, hq, ?_⟩
    exact (withIn_mem (f := g) (d := q.2) (c := r.2)).1 (List.mem_map.2 ⟨r, hr, rfl⟩)
  · rintro ⟨b, h1, h2⟩
    refine ⟨(p.1, b), h1, ?_⟩
    obtain ⟨r, hr, e⟩ := List.mem_map.1 ((withIn_mem (f := g) (d := b) (c := p.2)).2 h2)
    exact List.mem_map.2 ⟨r, hr, Prod.ext rfl e⟩
theorem CInv.done {f g R : List (Int × Int)} (h : CInv (ascP f) (ascP g) (ascP f).length R) : R = compS f g := by
  refine Asc.ext totP h.asc (ascP_spec _).1 fun p => ?_
  rw [h.mem, compS_mem, List.take_length]
  unfold comps
  simp only [(ascP_spec _).2]
end Go.Proofs.Ytcmooklcaeggbaa
