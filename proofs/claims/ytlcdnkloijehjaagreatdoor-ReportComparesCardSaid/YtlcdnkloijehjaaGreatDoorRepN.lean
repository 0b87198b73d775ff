/-
  Chapter 45: findings are ordered: plain.
-/
import Derived.Test.YtlcdnkloijehjaaGreatDoorRepL
namespace Go.Proofs.YtlcdnkloijehjaaGreatDoor
open Go.RowKit
set_option linter.unusedVariables false

/-- A comparison by three values that orders its domain. -/
structure Ord3 {α : Type} (c : α → α → Int) : Prop where
  rng : ∀ x y, c x y = -1 ∨ c x y = 0 ∨ c x y = 1
  anti : ∀ x y, c y x = - c x y
  trans : ∀ x y z, c x y < 0 → c y z < 0 → c x z < 0
  congr : ∀ x y z, c x y = 0 → c x z = c y z
section
variable {α β : Type} {c d : α → α → Int}
theorem Ord3.self (h : Ord3 c) (x : α) : c x x = 0 := by have := h.anti x x; omega
theorem Ord3.congr' (h : Ord3 c) {x y : α} (z : α) (e : c x y = 0) : c z x = c z y := by
  have h1 := h.congr x y z e
  have h2 := h.anti z x
  have h3 := h.anti z y
  omega
theorem Ord3.lt_le (h : Ord3 c) {x y z : α} (h1 : c x y < 0) (h2 : c y z ≤ 0) : c x z < 0 := by
  by_cases e : c y z = 0
  · have := h.congr' x e
    omega
  · exact h.trans x y z h1 (by omega)
theorem Ord3.le_lt (h : Ord3 c) {x y z : α} (h1 : c x y ≤ 0) (h2 : c y z < 0) : c x z < 0 := by
  by_cases e : c x y = 0
  · have := h.congr x y z e
    omega
  · exact h.trans x y z (by omega) h2
theorem Ord3.pull (h : Ord3 c) (f : β → α) : Ord3 (fun x y => c (f x) (f y)) :=
  ⟨fun x y => h.rng _ _, fun x y => h.anti _ _, fun x y z => h.trans _ _ _, fun x y z => h.congr _ _ _⟩
theorem thenI_zero {a b : Int} : thenI a b = 0 ↔ a = 0 ∧ b = 0 := by
  unfold thenI
  by_cases h : a = 0
  · rw [if_pos h]; simp [h]
  · rw [if_neg h]; simp [h]
theorem thenI_neg {a b : Int} : thenI a b < 0 ↔ a < 0 ∨ (a = 0 ∧ b < 0) := by
  unfold thenI
  by_cases h : a = 0
  · rw [if_pos h]; simp [h]
  · rw [if_neg h]; simp [h]
theorem Ord3.lex (h : Ord3 c) (k : Ord3 d) : Ord3 (fun x y => thenI (c x y) (d x y)) := by
  refine ⟨fun x y => ?_, fun x y => ?_, fun x y z h1 h2 => ?_, fun x y z e => ?_⟩
  · have := h.rng x y
    have := k.rng x y
    show thenI _ _ = _ ∨ thenI _ _ = _ ∨ thenI _ _ = _
    unfold thenI
    split <;> omega
  · have h1 := h.anti x y
    have h2 := k.anti x y
    show thenI _ _ = - thenI _ _
    unfold thenI
    by_cases e : c x y = 0
    · rw [if_pos e, if_pos (by omega)]; exact h2
    · rw [if_neg e, if_neg (by omega)]; exact h1
  · rw [thenI_neg] at h1 h2 ⊢
    rcases h1 with h1 | ⟨e1, h1⟩
    · rcases h2 with h2 | ⟨e2, h2⟩
      · exact Or.inl (h.trans x y z h1 h2)
      · exact Or.inl (h.lt_le h1 (by omega))
    · rcases h2 with h2 | ⟨e2, h2⟩
      · exact Or.inl (h.le_lt (by omega) h2)
      · exact Or.inr ⟨by rw [h.congr x y z e1]; exact e2, k.trans x y z h1 h2⟩
  · obtain ⟨e1, e2⟩ := thenI_zero.1 e
    show thenI _ _ = thenI _ _
    rw [h.congr x y z e1, k.congr x y z e2]
end
theorem ord_cmpI : Ord3 cmpI := by
  refine ⟨fun x y => ?_, fun x y => ?_, fun x y z => ?_, fun x y z => ?_⟩
  all_goals (unfold cmpI Lib.compareInt)
  · split
    · omega
    · split <;> omega
  · repeat' split
    all_goals omega
  · repeat' split
    all_goals omega
  · repeat' split
    all_goals omega
theorem cmpB_tri (a b : List UInt8) : (a < b ∧ Lib.compareBytes a b = -1) ∨ (a = b ∧ Lib.compareBytes a b = 0) ∨ (b < a ∧ Lib.compareBytes a b = 1) := by
  by_cases h : a < b
  · exact Or.inl ⟨h, cmpB_lt h⟩
  by_cases k : b < a
  · exact Or.inr (Or.inr ⟨k, cmpB_gt k⟩)
  have e : a = b := List.le_antisymm (List.not_lt.1 k) (List.not_lt.1 h)
  subst e
  exact Or.inr (Or.inl ⟨rfl, cmpB_self _⟩)
theorem ord_cmpB : Ord3 Lib.compareBytes := by
  refine ⟨fun x y => ?_, fun x y => ?_, fun x y z h1 h2 => ?_, fun x y z e => ?_⟩
  · rcases cmpB_tri x y with ⟨_, h⟩ | ⟨_, h⟩ | ⟨_, h⟩ <;> omega
  · rcases cmpB_tri x y with ⟨k, h⟩ | ⟨k, h⟩ | ⟨k, h⟩
    · rw [h, cmpB_gt k]; rfl
    · subst k; rw [h]; rfl
    · rw [h, cmpB_lt k]
  · rcases cmpB_tri x y with ⟨k, h⟩ | ⟨k, h⟩ | ⟨k, h⟩ <;> try omega
    rcases cmpB_tri y z with ⟨k', h'⟩ | ⟨k', h'⟩ | ⟨k', h'⟩ <;> try omega
    rw [cmpB_lt (List.lt_trans k k')]
    omega
  · rcases cmpB_tri x y with ⟨k, h⟩ | ⟨k, h⟩ | ⟨k, h⟩ <;> try omega
    rw [k]
theorem ord_cmpS : Ord3 cmpS := ord_cmpB.pull (fun x : ByteArray => x.data.toList)
theorem ord_cmpP : Ord3 cmpP := (ord_cmpS.pull Plc.cls).lex ((ord_cmpS.pull Plc.mth).lex (ord_cmpI.pull Plc.ins))
theorem ord_cmpPs : Ord3 cmpPs := by
  refine ⟨fun x y => ?_, fun x y => ?_, fun x y z => ?_, fun x y z => ?_⟩
  · induction x generalizing y with
    | nil => cases y <;> simp [cmpPs]
    | cons a l ih =>
      cases y with
      | nil => simp [cmpPs]
      | cons b m =>
        have h1 := ord_cmpP.rng a b
        have h2 := ih m
        show thenI _ _ = _ ∨ thenI _ _ = _ ∨ thenI _ _ = _
        unfold thenI
        split <;> omega
  · induction x generalizing y with
    | nil => cases y <;> simp [cmpPs]
    | cons a l ih =>
      cases y with
      | nil => simp [cmpPs]
      | cons b m =>
        have h1 := ord_cmpP.anti a b
        have h2 := ih m
        show thenI _ _ = - thenI _ _
        unfold thenI
        by_cases e : cmpP a b = 0
        · rw [if_pos e, if_pos (by omega)]; exact h2
        · rw [if_neg e, if_neg (by omega)]; exact h1
  · induction x generalizing y z with
    | nil =>
      cases y <;> cases z <;> simp [cmpPs]
    | cons a l ih =>
      cases y with
      | nil => simp [cmpPs]
      | cons b m =>
        cases z with
        | nil => simp [cmpPs]
        | cons e n =>
          intro h1 h2
          have h1' : thenI (cmpP a b) (cmpPs l m) < 0 := h1
          have h2' : thenI (cmpP b e) (cmpPs m n) < 0 := h2
          show thenI (cmpP a e) (cmpPs l n) < 0
          rw [thenI_neg] at h1' h2' ⊢
          rcases h1' with h1 | ⟨e1, h1⟩
          · rcases h2' with h2 | ⟨e2, h2⟩
            · exact Or.inl (ord_cmpP.trans a b e h1 h2)
            · exact Or.inl (ord_cmpP.lt_le h1 (by omega))
          · rcases h2' with h2 | ⟨e2, h2⟩
            · exact Or.inl (ord_cmpP.le_lt (by omega) h2)
            · exact Or.inr ⟨by rw [ord_cmpP.congr a b e e1]; exact e2, ih m n h1 h2⟩
  · induction x generalizing y z with
    | nil =>
      cases y with
      | nil => intro _; rfl
      | cons b m => intro h; simp [cmpPs] at h
    | cons a l ih =>
      cases y with
      | nil => intro h; simp [cmpPs] at h
      | cons b m =>
        intro h
        have h' : thenI (cmpP a b) (cmpPs l m) = 0 := h
        obtain ⟨e1, e2⟩ := thenI_zero.1 h'
        cases z with
        | nil => rfl
        | cons e n =>
          show thenI _ _ = thenI _ _
          rw [ord_cmpP.congr a b e e1, ih m n e2]
theorem ord_cmpF : Ord3 cmpF := (ord_cmpP.pull Fnd.plc).lex ((ord_cmpI.pull Fnd.kind).lex ((ord_cmpS.pull Fnd.what).lex (ord_cmpPs.pull Fnd.path)))

/-! ### Ascending findings, and a search among them -/
theorem rises_at {l : List Fnd} (h : risesB l = true) : ∀ (i j : Nat) (hj : j < l.length) (hij : i < j), cmpF (l[i]'(by omega)) l[j] < 0 := by
  induction l with
  | nil => intro i j hj; simp at hj
  | cons a l ih =>
    cases l with
    | nil => intro i j hj hij; simp at hj; omega
    | cons b m =>
      unfold risesB at h
      simp only [Bool.and_eq_true, decide_eq_true_eq] at h
      have ih' := ih h.2
      intro i j hj hij
      obtain ⟨j', rfl⟩ : ∃ j', j = j' + 1 := ⟨j - 1, by omega⟩
      simp only [List.getElem_cons_succ]
      have hj' : j' < (b :: m).length := by simpa using hj
      cases i with
      | succ i => simpa using ih' i j' hj' (by omega)
      | zero =>
        simp only [List.getElem_cons_zero]
        cases j' with
        | zero => simpa using h.1
        | succ j' =>
          have := ih' 0 (j' + 1) hj' (by omega)
          exact ord_cmpF.trans _ _ _ h.1 (by simpa using this)
def hasF (m : List Fnd) (x : Fnd) : Bool := m.any fun y => decide (cmpF y x = 0)
theorem hasF_yes {m : List Fnd} {x : Fnd} {i : Nat} (hi : i < m.length) (h : cmpF m[i] x = 0) : hasF m x = true :=
  List.any_eq_true.2 ⟨m[i], List.getElem_mem hi, decide_eq_true h⟩
/-- Below i all are less, from i on none is. -/
theorem hasF_at {m : List Fnd} {x : Fnd} {i : Nat} (hr : risesB m = true) (hlo : ∀ k (hk : k < m.length), k < i → cmpF m[k] x < 0) (hhi : ∀ k (hk : k < m.length), i ≤ k → 0 ≤ cmpF m[k] x) (hi : i < m.length) :
    hasF m x = decide (cmpF m[i] x = 0) := by
  by_cases h : cmpF m[i] x = 0
  · rw [decide_eq_true h]; exact hasF_yes hi h
  · rw [decide_eq_false h]
    unfold hasF
    rw [List.any_eq_false]
    intro y hy
    obtain ⟨k, hk, rfl⟩ := List.getElem_of_mem hy
    simp only [decide_eq_true_eq]
    intro e
    rcases Nat.lt_trichotomy k i with h1 | h1 | h1
    · have := hlo k hk h1; omega
    · subst h1; exact h e
    · have h2 := rises_at hr i k hk h1
      have h3 := ord_cmpF.congr' m[i] e
      have h4 := hhi i hi (Nat.le_refl _)
      omega
theorem hasF_end {m : List Fnd} {x : Fnd} (hlo : ∀ k (hk : k < m.length), cmpF m[k] x < 0) : hasF m x = false := by
  unfold hasF
  rw [List.any_eq_false]
  intro y hy
  obtain ⟨k, hk, rfl⟩ := List.getElem_of_mem hy
  have := hlo k hk
  simp only [decide_eq_true_eq]
  omega
theorem below_all {m : List Fnd} {x : Fnd} {h : Nat} (hr : risesB m = true) (hh : h < m.length) (hc : cmpF m[h] x < 0) : ∀ k (hk : k < m.length), k < h + 1 → cmpF m[k] x < 0 := fun k hk hkh => by
  rcases Nat.lt_or_ge k h with h1 | h1
  · exact ord_cmpF.trans _ _ _ (rises_at hr k h hh h1) hc
  · obtain rfl : k = h := by omega
    exact hc
theorem above_all {m : List Fnd} {x : Fnd} {h : Nat} (hr : risesB m = true) (hh : h < m.length) (hc : ¬ cmpF m[h] x < 0) : ∀ k (hk : k < m.length), h ≤ k → 0 ≤ cmpF m[k] x := fun k hk hkh => by
  rcases Nat.lt_or_ge h k with h1 | h1
  · have h2 := rises_at hr h k hk h1
    by_cases e : cmpF m[k] x < 0
    · have := ord_cmpF.trans _ _ _ h2 e; omega
    · omega
  · obtain rfl : k = h := by omega
    omega
theorem bothB_take {l m : List Fnd} {k : Nat} (h : k < l.length) : (l.take (k + 1)).any (hasF m) = ((l.take k).any (hasF m) || hasF m l[k]) := by
  rw [List.take_succ_eq_append_getElem h, List.any_append]
  simp
theorem bothB_hasF (l m : List Fnd) : bothB l m = l.any (hasF m) := rfl
/-- The first error of a report. -/
def rptE (r : Rpt) : Int :=
  if 1000 < r.opn.length ∨ 1000 < r.hdn.length ∨ 200 < r.uns.length then 3
  else thenI (fndsE r.opn) (thenI (fndsE (hidden r)) (if risesB r.opn && risesB (hidden r) then (if bothB r.opn (hidden r) then 7 else noteE r.hdn r.uns) else 13))
end Go.Proofs.YtlcdnkloijehjaaGreatDoor
