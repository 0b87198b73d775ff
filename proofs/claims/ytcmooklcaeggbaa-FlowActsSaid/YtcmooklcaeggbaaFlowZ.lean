/-
  Chapter 29: what application, composition and union have to do with one another (plain).
-/
import Derived.Test.YtcmooklcaeggbaaFlowY
import Derived.Test.YtcmooklcaeggbaaFlowN
namespace Go.Proofs.Ytcmooklcaeggbaa
open Go.RowKit
set_option linter.unusedVariables false

/-- What Apply answers. -/
def appl (f : List (Int × Int)) (l : List Int) : List Int := ascI (outOf l f)
theorem appl_asc (f : List (Int × Int)) (l : List Int) : (appl f l).Pairwise (· < ·) := (ascI_spec _).1
theorem appl_len (f : List (Int × Int)) (l : List Int) : (appl f l).length ≤ f.length := Nat.le_trans (ascI_len _) (outOf_len l f)
theorem appl_mem (f : List (Int × Int)) (l : List Int) (x : Int) : x ∈ appl f l ↔ x ≠ 0 ∧ ∃ a, (a, x) ∈ f ∧ (a = 0 ∨ a ∈ l) := by
  unfold appl
  rw [(ascI_spec _).2]
  unfold outOf
  rw [List.mem_map]
  constructor
  · rintro ⟨p, hp, rfl⟩
    rw [List.mem_filter] at hp
    obtain ⟨h1, h2⟩ := hp
    simp only [applies, hasB, Bool.and_eq_true, bne_iff_ne, Bool.or_eq_true, beq_iff_eq, decide_eq_true_eq] at h2
    exact ⟨h2.1, p.1, h1, h2.2⟩
  · rintro ⟨h0, a, h1, h2⟩
    refine ⟨(a, x), ?_, rfl⟩
    rw [List.mem_filter]
    refine ⟨h1, ?_⟩
    simp only [applies, hasB, Bool.and_eq_true, bne_iff_ne, Bool.or_eq_true, beq_iff_eq, decide_eq_true_eq]
    exact ⟨h0, h2⟩
structure GoodF (f : List (Int × Int)) : Prop where
  asc : Asc ltP f
  rng : ∀ p ∈ f, 0 ≤ p.1 ∧ p.1 < 50 ∧ 0 ≤ p.2 ∧ p.2 < 50
  zero : (0, 0) ∈ f
theorem GoodF.of_check {f : List (Int × Int)} (h : checkE f 50 = 0) : GoodF f := by
  obtain ⟨h1, h2⟩ := checkE_good h
  refine ⟨h1, h2, ?_⟩
  by_cases h3 : 8192 < f.length
  · rw [checkE_long (by omega) h3] at h; omega
  have hno : ∀ i, i < f.length → badAt f 50 i = none := fun i hi => by
    refine badAt_none hi ?_ fun h0 => List.pairwise_iff_getElem.1 h1 (i - 1) i (by omega) hi (by omega)
    have := h2 f[i] (List.getElem_mem hi)
    simp [fitsB]
    omega
  rw [checkE_end (by omega) h3 hno] at h
  split at h
  · rename_i hh
    exact List.mem_of_mem_head? hh
  · omega
theorem GoodF.check {f : List (Int × Int)} (h : GoodF f) (hl : f.length ≤ 8192) : checkE f 50 = 0 := by
  have hno : ∀ i, i < f.length → badAt f 50 i = none := fun i hi => by
    refine badAt_none hi ?_ fun h0 => List.pairwise_iff_getElem.1 h.asc (i - 1) i (by omega) hi (by omega)
    have := h.rng f[i] (List.getElem_mem hi)
    simp [fitsB]
    omega
  rw [checkE_end (by omega) (by omega) hno, if_pos]
  have hz := h.zero
  have ha := h.asc
  cases f with
  | nil => simp at hz
  | cons p r =>
    have hp := h.rng p (by simp)
    rcases List.mem_cons.1 hz with e | e
    · rw [← e]; rfl
    · have := (List.pairwise_cons.1 ha).1 _ e
      simp [ltP] at this
      omega
theorem GoodF.comp {f g : List (Int × Int)} (hf : GoodF f) (hg : GoodF g) : GoodF (compS f g) := by
  refine ⟨compS_asc _ _, fun p hp => ?_, ?_⟩
  · rw [compS_mem] at hp
    obtain ⟨b, h1, h2⟩ := hp
    have := hf.rng _ h1
    have := hg.rng _ h2
    simp at *
    omega
  · rw [compS_mem]; exact ⟨0, hf.zero, hg.zero⟩
theorem GoodF.union {f g : List (Int × Int)} (hf : GoodF f) (hg : GoodF g) : GoodF (ascP (f ++ g)) := by
  refine ⟨(ascP_spec _).1, fun p hp => ?_, ?_⟩
  · rw [(ascP_spec _).2, List.mem_append] at hp
    rcases hp with hp | hp
    · exact hf.rng p hp
    · exact hg.rng p hp
  · rw [(ascP_spec _).2, List.mem_append]; exact Or.inl hf.zero
theorem appl_comp {f g : List (Int × Int)} (hf : GoodF f) (l : List Int) : appl (compS f g) l = appl g (appl f l) := by
  refine asc_ext (appl_asc _ _) (appl_asc _ _) fun x => ?_
  simp only [appl_mem, compS_mem]
  unfold comps
  constructor
  · rintro ⟨h0, a, ⟨b, h1, h2⟩, h3⟩
    refine ⟨h0, b, h2, ?_⟩
    by_cases hb : b = 0
    · exact Or.inl hb
    · exact Or.inr ⟨hb, a, h1, h3⟩
  · rintro ⟨h0, b, h2, hb | ⟨hb, a, h1, h3⟩⟩
    · subst hb; exact ⟨h0, 0, ⟨0, hf.zero, h2⟩, Or.inl rfl⟩
    · exact ⟨h0, a, ⟨b, h1, h2⟩, h3⟩
theorem appl_id (l : List Int) (x : Int) : x ∈ appl (idTo 50) l ↔ x ≠ 0 ∧ 0 ≤ x ∧ x < 50 ∧ x ∈ l := by
  rw [appl_mem]
  constructor
  · rintro ⟨h0, a, h1, h2⟩
    rw [idTo_mem] at h1
    simp at h1
    obtain ⟨rfl, h3, h4⟩ := h1
    rcases h2 with h2 | h2
    · exact absurd h2 h0
    · exact ⟨h0, h3, h4, h2⟩
  · rintro ⟨h0, h1, h2, h3⟩
    exact ⟨h0, x, by rw [idTo_mem]; simp; omega, Or.inr h3⟩
theorem appl_union {f g : List (Int × Int)} (hf : GoodF f) (hg : GoodF g) (l : List Int) : appl (ascP (f ++ g)) l = appl (idTo 50) (appl f l ++ appl g l) := by
  refine asc_ext (appl_asc _ _) (appl_asc _ _) fun x => ?_
  rw [appl_id, List.mem_append]
  simp only [appl_mem, (ascP_spec _).2, List.mem_append]
  constructor
  · rintro ⟨h0, a, h1 | h1, h2⟩
    · have := hf.rng _ h1
      simp at this
      exact ⟨h0, by omega, by omega, Or.inl ⟨h0, a, h1, h2⟩⟩
    · have := hg.rng _ h1
      simp at this
      exact ⟨h0, by omega, by omega, Or.inr ⟨h0, a, h1, h2⟩⟩
  · rintro ⟨h0, _, _, ⟨_, a, h1, h2⟩ | ⟨_, a, h1, h2⟩⟩
    · exact ⟨h0, a, Or.inl h1, h2⟩
    · exact ⟨h0, a, Or.inr h1, h2⟩
theorem appl_split {f : List (Int × Int)} (hf : GoodF f) (l m : List Int) : appl f (l ++ m) = appl (idTo 50) (appl f l ++ appl f m) := by
  refine asc_ext (appl_asc _ _) (appl_asc _ _) fun x => ?_
  rw [appl_id, List.mem_append]
  simp only [appl_mem, List.mem_append]
  constructor
  · rintro ⟨h0, a, h1, h2⟩
    have := hf.rng _ h1
    simp at this
    rcases h2 with h2 | h2 | h2
    · exact ⟨h0, by omega, by omega, Or.inl ⟨h0, a, h1, Or.inl h2⟩⟩
    · exact ⟨h0, by omega, by omega, Or.inl ⟨h0, a, h1, Or.inr h2⟩⟩
    · exact ⟨h0, by omega, by omega, Or.inr ⟨h0, a, h1, Or.inr h2⟩⟩
  · rintro ⟨h0, _, _, ⟨_, a, h1, h2⟩ | ⟨_, a, h1, h2⟩⟩
    · exact ⟨h0, a, h1, h2.imp id Or.inl⟩
    · exact ⟨h0, a, h1, h2.imp id Or.inr⟩
theorem appl_half {f : List (Int × Int)} (hf : GoodF f) (l : List Int) (k : Nat) : appl f l = appl (idTo 50) (appl f (l.take k) ++ appl f (l.drop k)) := by
  rw [← appl_split hf, List.take_append_drop]
theorem okInt_small {l : List Int} (h : ∀ x ∈ l, 0 ≤ x ∧ x < 50) : Hid (∀ x ∈ l, okInt x) := fun x hx => by
  have := h x hx
  exact okInt_of (by omega) (by omega)
theorem appl_small {f : List (Int × Int)} (hf : GoodF f) (l : List Int) : ∀ x ∈ appl f l, 0 ≤ x ∧ x < 50 := fun x hx => by
  rw [appl_mem] at hx
  obtain ⟨_, a, h1, _⟩ := hx
  have := hf.rng _ h1
  simp at this
  omega
theorem GoodF.okIn {f : List (Int × Int)} (hf : GoodF f) : Hid (∀ x ∈ f, okInt x.1) := fun x hx => by
  have := hf.rng x hx
  exact okInt_of (by omega) (by omega)
theorem GoodF.id : GoodF (idTo 50) := by
  refine ⟨?_, fun p hp => ?_, by rw [idTo_mem]; simp⟩
  · unfold idTo Asc
    rw [List.pairwise_map]
    exact List.pairwise_lt_range.imp fun h => by simp [ltP]; omega
  · rw [idTo_mem] at hp; omega

theorem Own.weaken {α : Type} {cells : α → List Value} {size b1 b2 : Nat} {e : TypeId} {w : World} {v : Value} {l : List α} (h : Own cells size b1 e w v l) (hb : b2 ≤ b1) : Own cells size b2 e w v l := by
  refine ⟨h.1, ?_⟩
  rcases h.2 with h2 | ⟨g, cap, cur, h1, h2, h3⟩
  · exact Or.inl h2
  · exact Or.inr ⟨g, cap, cur, h1, by omega, h3⟩
theorem slI_cells {w : World} {A : Option Addr} {l : List Int} (h : Sl Lay.int w A l) : ∀ i x, l[i]? = some x → ∃ b o, A = some ⟨b, o, none⟩ ∧ ∀ j v, (cellsInt x)[j]? = some v → w.cell? ⟨b, o + i * 1 + j, none⟩ = some v := fun i x hx => by
  obtain ⟨b, o, vs, e, hlt, hr, hc⟩ := h i x hx
  have hr' : vs = cellsInt x := hr
  subst hr'
  exact ⟨b, o, e, hc⟩
theorem Sl.drop {α : Type} {L : Lay α} {w : World} {b o : Nat} {l : List α} (h : Sl L w (some ⟨b, o, none⟩) l) (k : Nat) : Sl L w (some ⟨b, o + k * L.size, none⟩) (l.drop k) := fun i x hx => by
  rw [List.getElem?_drop] at hx
  obtain ⟨b', o', vs, e, hlt, hr, hc⟩ := h (k + i) x hx
  simp only [Option.some.injEq, Addr.mk.injEq] at e
  obtain ⟨rfl, rfl, _⟩ := e
  refine ⟨_, _, vs, rfl, hlt, hr, fun j v hj => ?_⟩
  have := hc j v hj
  rw [Nat.add_mul] at this
  rw [Nat.add_assoc o]
  exact this
theorem Sl.drop1 {w : World} {C : Option Addr} {l : List Int} (h : Sl Lay.int w C l) (k : Nat) : Sl Lay.int w (C.map (fun x => x.add k)) (l.drop k) := by
  cases C with
  | none =>
    cases l with
    | nil => simpa using Sl.nil
    | cons x r => obtain ⟨b, o, vs, e, _⟩ := h 0 x rfl; cases e
  | some a =>
    cases l with
    | nil => simpa using Sl.nil
    | cons x r =>
      obtain ⟨b, o, vs, e, _⟩ := h 0 x rfl
      obtain rfl := Option.some.inj e
      have := h.drop k
      rw [Option.map_some, add_form]
      simpa [Lay.int, Lay.plain] using this
end Go.Proofs.Ytcmooklcaeggbaa
