/-
  Ascending lists under a strict total order; insertion one by one. Plain mathematics.
-/
import Derived.Test.YthlpndgfphjlkaaLib
namespace Go.Proofs.Ythlpndgfphjlkaa
set_option linter.unusedVariables false

/-- A strict total order. -/
structure Tot {α : Type} (lt : α → α → Bool) : Prop where
  irrefl : ∀ x, lt x x = false
  trans : ∀ x y z, lt x y = true → lt y z = true → lt x z = true
  tri : ∀ x y, lt x y = false → lt y x = false → x = y

section
variable {α : Type} {lt : α → α → Bool}
def Asc (lt : α → α → Bool) (l : List α) : Prop := l.Pairwise fun a b => lt a b = true
theorem Tot.asymm (T : Tot lt) {x y : α} (h : lt x y = true) : lt y x = false := by
  cases h1 : lt y x with
  | false => rfl
  | true => have := T.trans _ _ _ h h1; rw [T.irrefl] at this; cases this
theorem Asc.ext (T : Tot lt) : ∀ {l m : List α}, Asc lt l → Asc lt m → (∀ x, x ∈ l ↔ x ∈ m) → l = m
  | [], [], _, _, _ => rfl
  | [], b :: m, _, _, h => by have := (h b).2 (by simp); simp at this
  | a :: l, [], _, _, h => by have := (h a).1 (by simp); simp at this
  | a :: l, b :: m, hl, hm, h => by
    unfold Asc at hl hm
    rw [List.pairwise_cons] at hl hm
    have hab : a = b := by
      have h1 := (h a).1 (by simp)
      have h2 := (h b).2 (by simp)
      simp only [List.mem_cons] at h1 h2
      rcases h1 with h1 | h1
      · exact h1
      · rcases h2 with h2 | h2
        · exact h2.symm
        · have h3 := hm.1 a h1
          have h4 := hl.1 b h2
          rw [T.asymm h3] at h4
          cases h4
    subst hab
    congr 1
    refine Asc.ext T hl.2 hm.2 fun x => ?_
    have hx := h x
    simp only [List.mem_cons] at hx
    constructor
    · intro h1
      rcases hx.1 (Or.inr h1) with h2 | h2
      · subst h2; have := hl.1 x h1; rw [T.irrefl] at this; cases this
      · exact h2
    · intro h1
      rcases hx.2 (Or.inr h1) with h2 | h2
      · subst h2; have := hm.1 x h1; rw [T.irrefl] at this; cases this
      · exact h2

def putStep (lt : α → α → Bool) (d : α) (s : Bool × List α) (x : α) : Bool × List α := if s.1 = false ∧ lt d x = true then (true, (s.2 ++ [d]) ++ [x]) else (s.1, s.2 ++ [x])
def putTo (lt : α → α → Bool) (l : List α) (d : α) : Bool × List α := l.foldl (putStep lt d) (false, [])
theorem putTo_snoc (l : List α) (x d : α) : putTo lt (l ++ [x]) d = putStep lt d (putTo lt l d) x := by unfold putTo; rw [List.foldl_append]; rfl
theorem putTo_len (d : α) (l : List α) : (putTo lt l d).2.length ≤ l.length + 1 ∧ ((putTo lt l d).1 = false → (putTo lt l d).2.length = l.length) := by
  suffices ∀ k, k ≤ l.length → (putTo lt (l.take k) d).2.length ≤ k + 1 ∧ ((putTo lt (l.take k) d).1 = false → (putTo lt (l.take k) d).2.length = k) by
    have := this l.length (Nat.le_refl _); rwa [List.take_length] at this
  intro k
  induction k with
  | zero => intro _; simp [putTo]
  | succ k ih =>
    intro hk
    have ih := ih (by omega)
    rw [List.take_succ_eq_append_getElem (by omega), putTo_snoc]
    unfold putStep
    split
    · rename_i h; have := ih.2 h.1; simp; omega
    · simp; omega
theorem putTo_spec (T : Tot lt) {l : List α} {d : α} (hl : Asc lt l) (hd : d ∉ l) :
    Asc lt (putTo lt l d).2 ∧ (∀ x, x ∈ (putTo lt l d).2 ↔ x ∈ l ∨ ((putTo lt l d).1 = true ∧ x = d)) ∧ ((putTo lt l d).1 = false → ∀ x ∈ l, lt x d = true) := by
  suffices ∀ k, k ≤ l.length → Asc lt (putTo lt (l.take k) d).2 ∧ (∀ x, x ∈ (putTo lt (l.take k) d).2 ↔ x ∈ l.take k ∨ ((putTo lt (l.take k) d).1 = true ∧ x = d)) ∧ ((putTo lt (l.take k) d).1 = false → ∀ x ∈ l.take k, lt x d = true) ∧ ((putTo lt (l.take k) d).1 = true → ∃ x ∈ l.take k, lt d x = true) by
    have := this l.length (Nat.le_refl _); rw [List.take_length] at this; exact ⟨this.1, this.2.1, this.2.2.1⟩
  intro k
  induction k with
  | zero => intro _; simp [putTo, Asc]
  | succ k ih =>
    intro hk
    obtain ⟨i1, i2, i3, i4⟩ := ih (by omega)
    have hlk : ∀ x ∈ l.take k, lt x l[k] = true := fun x hx => by
      obtain ⟨i, hi, rfl⟩ := List.getElem_of_mem hx
      rw [List.length_take] at hi
      rw [List.getElem_take]
      exact List.pairwise_iff_getElem.1 hl i k (by omega) (by omega) (by omega)
    have hkd : l[k] ≠ d := fun e => hd (e ▸ List.getElem_mem _)
    rw [List.take_succ_eq_append_getElem (by omega), putTo_snoc]
    unfold putStep
    split
    · rename_i h
      have i3' := i3 h.1
      refine ⟨?_, fun x => ?_, (fun h0 => by cases h0), fun _ => ⟨l[k], List.mem_append.2 (Or.inr (List.mem_singleton.2 rfl)), h.2⟩⟩
      · unfold Asc
        rw [List.pairwise_append, List.pairwise_append]
        refine ⟨⟨i1, by simp, fun a ha b hb => ?_⟩, by simp, fun a ha b hb => ?_⟩
        · simp at hb; subst hb
          rcases (i2 a).1 ha with h1 | ⟨h1, _⟩
          · exact i3' a h1
          · rw [h.1] at h1; cases h1
        · simp at hb; subst hb
          rw [List.mem_append] at ha
          rcases ha with ha | ha
          · rcases (i2 a).1 ha with h1 | ⟨h1, _⟩
            · exact hlk a h1
            · rw [h.1] at h1; cases h1
          · simp at ha; subst ha; exact h.2
      · simp only [List.mem_append, List.mem_singleton, i2, h.1]
        constructor
        · rintro (((h1 | ⟨h1, _⟩) | h1) | h1)
          · exact Or.inl (Or.inl h1)
          · cases h1
          · exact Or.inr ⟨trivial, h1⟩
          · exact Or.inl (Or.inr h1)
        · rintro ((h1 | h1) | ⟨_, h1⟩)
          · exact Or.inl (Or.inl (Or.inl h1))
          · exact Or.inr h1
          · exact Or.inl (Or.inr h1)
    · rename_i h
      refine ⟨?_, fun x => ?_, fun h0 x hx => ?_, fun h0 => ?_⟩
      · unfold Asc
        rw [List.pairwise_append]
        refine ⟨i1, by simp, fun a ha b hb => ?_⟩
        simp at hb; subst hb
        rcases (i2 a).1 ha with h1 | ⟨h1, h2⟩
        · exact hlk a h1
        · subst h2
          obtain ⟨y, hy, hdy⟩ := i4 h1
          exact T.trans _ _ _ hdy (hlk y hy)
      · simp only [List.mem_append, List.mem_singleton, i2]
        constructor
        · rintro ((h1 | h1) | h1)
          · exact Or.inl (Or.inl h1)
          · exact Or.inr h1
          · exact Or.inl (Or.inr h1)
        · rintro ((h1 | h1) | h1)
          · exact Or.inl (Or.inl h1)
          · exact Or.inr h1
          · exact Or.inl (Or.inr h1)
      · simp only [List.mem_append, List.mem_singleton] at hx
        rcases hx with hx | hx
        · exact i3 h0 x hx
        · subst hx
          have h0' : (putTo lt (l.take k) d).1 = false := h0
          cases h5 : lt d l[k] with
          | true => exact absurd ⟨h0', h5⟩ h
          | false =>
            cases h6 : lt l[k] d with
            | true => rfl
            | false => exact absurd (T.tri _ _ h6 h5) hkd
      · obtain ⟨y, hy, hdy⟩ := i4 h0
        exact ⟨y, List.mem_append.2 (Or.inl hy), hdy⟩
theorem putTo_yes {l : List α} {d : α} {k : Nat} (hk : k < l.length) (hp : (putTo lt (l.take k) d).1 = false) (h : lt d l[k] = true) : putTo lt (l.take (k + 1)) d = (true, ((putTo lt (l.take k) d).2 ++ [d]) ++ [l[k]]) := by
  rw [List.take_succ_eq_append_getElem hk, putTo_snoc]; unfold putStep; rw [if_pos ⟨hp, h⟩]
theorem putTo_no {l : List α} {d : α} {k : Nat} (hk : k < l.length) (h : ¬ ((putTo lt (l.take k) d).1 = false ∧ lt d l[k] = true)) : putTo lt (l.take (k + 1)) d = ((putTo lt (l.take k) d).1, (putTo lt (l.take k) d).2 ++ [l[k]]) := by
  rw [List.take_succ_eq_append_getElem hk, putTo_snoc]; unfold putStep; rw [if_neg h]
variable [DecidableEq α]
/-- One more element in its place. -/
def withO (lt : α → α → Bool) (l : List α) (d : α) : List α := if d ∈ l then l else if (putTo lt l d).1 then (putTo lt l d).2 else (putTo lt l d).2 ++ [d]
theorem withO_len (l : List α) (d : α) : (withO lt l d).length ≤ l.length + 1 := by
  have h := putTo_len (lt := lt) d l
  unfold withO
  split
  · omega
  · split
    · omega
    · rename_i h2; have := h.2 (by simpa using h2); rw [List.length_append]; simp; omega
theorem withO_spec (T : Tot lt) {l : List α} {d : α} (hl : Asc lt l) : Asc lt (withO lt l d) ∧ ∀ x, x ∈ withO lt l d ↔ x ∈ l ∨ x = d := by
  unfold withO
  split
  · rename_i h
    exact ⟨hl, fun x => ⟨Or.inl, fun h1 => h1.elim id fun e => e ▸ h⟩⟩
  · rename_i h
    obtain ⟨h1, h2, h3⟩ := putTo_spec T hl h
    split
    · rename_i hp
      exact ⟨h1, fun x => by rw [h2]; simp [hp]⟩
    · rename_i hp
      have hp' : (putTo lt l d).1 = false := by simpa using hp
      refine ⟨?_, fun x => by rw [List.mem_append, h2]; simp [hp']⟩
      unfold Asc
      rw [List.pairwise_append]
      refine ⟨h1, by simp, fun a ha b hb => ?_⟩
      simp at hb; subst hb
      rcases (h2 a).1 ha with h4 | ⟨h4, _⟩
      · exact h3 hp' a h4
      · rw [hp'] at h4; cases h4
theorem withO_mem {l : List α} {d : α} (h : d ∈ l) : withO lt l d = l := if_pos h
theorem withO_put {l : List α} {d : α} {k : Nat} (hk : ¬ k < l.length) (h : ∀ i (hi : i < l.length), i < k → l[i] ≠ d) (hp : (putTo lt (l.take k) d).1 = true) : withO lt l d = (putTo lt (l.take k) d).2 := by
  rw [List.take_of_length_le (by omega)] at hp ⊢
  have : d ∉ l := fun hm => by
    obtain ⟨i, hi, e⟩ := List.getElem_of_mem hm
    exact h i hi (by omega) e
  unfold withO
  rw [if_neg this, if_pos hp]
theorem withO_end {l : List α} {d : α} {k : Nat} (hk : ¬ k < l.length) (h : ∀ i (hi : i < l.length), i < k → l[i] ≠ d) (hp : (putTo lt (l.take k) d).1 = false) : withO lt l d = (putTo lt (l.take k) d).2 ++ [d] := by
  rw [List.take_of_length_le (by omega)] at hp ⊢
  have : d ∉ l := fun hm => by
    obtain ⟨i, hi, e⟩ := List.getElem_of_mem hm
    exact h i hi (by omega) e
  unfold withO
  rw [if_neg this, if_neg (by simp [hp])]
end
end Go.Proofs.Ythlpndgfphjlkaa
