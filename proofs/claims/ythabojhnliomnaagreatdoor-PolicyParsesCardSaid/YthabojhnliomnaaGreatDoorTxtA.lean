/-
  Chapter 42: what a valid rule and a valid protocol hold; the lengths of their texts.
-/
import Derived.Test.YthabojhnliomnaaGreatDoorPolT
import Derived.Test.YthabojhnliomnaaGreatDoorPolN
namespace Go.Proofs.YthabojhnliomnaaGreatDoor
open Go.RowKit
set_option linter.unusedVariables false

theorem identB_size {s : ByteArray} (h : identB s = true) : s.size ≤ 32 := by
  unfold identB at h
  simp only [Bool.and_eq_true, decide_eq_true_eq] at h
  exact h.1.1.1.2
structure AcpV (x : Acp) : Prop where
  ok : acpE x = 0
  root : x.root = 1 ∨ x.root = 2
  n0 : 0 ≤ x.n
  n6 : x.n ≤ 6
  len : x.fields.length ≤ 2
  sz : ∀ f ∈ x.fields, f.size ≤ 32
structure RulV (x : Rul) : Prop where
  kind : x.kind = 1 ∨ x.kind = 2 ∨ x.kind = 3
  cls : x.cls.size ≤ 32
  mth : x.mth.size ≤ 32
  tag : x.tag.size ≤ 32
  pth : AcpV x.pth
theorem acpE_ok {x : Acp} (h : acpE x = 0) : (x.root = 1 ∨ x.root = 2 ∨ x.root = 3 ∨ x.root = 4) ∧ 0 ≤ x.n ∧ x.n ≤ mostI x.root ∧ x.fields.length ≤ 2 ∧ x.fields.all identB = true := by
  unfold acpE at h
  by_cases h1 : ¬ (x.root = 1 ∨ x.root = 2 ∨ x.root = 3 ∨ x.root = 4)
  · rw [if_pos h1] at h; omega
  rw [if_neg h1] at h
  by_cases h2 : x.n < 0 ∨ mostI x.root < x.n
  · rw [if_pos h2] at h; omega
  rw [if_neg h2] at h
  by_cases h3 : 2 < x.fields.length
  · rw [if_pos h3] at h; omega
  rw [if_neg h3] at h
  by_cases h4 : x.fields.all identB = true
  · exact ⟨by omega, by omega, by omega, by omega, h4⟩
  · rw [if_neg h4] at h; omega
theorem rulE_ok {x : Rul} (h : rulE x = 0) : RulV x := by
  unfold rulE at h
  by_cases h1 : ¬ (x.kind = 1 ∨ x.kind = 2 ∨ x.kind = 3)
  · rw [if_pos h1] at h; omega
  rw [if_neg h1] at h
  by_cases h2 : (!(identB x.cls && identB x.mth && identB x.tag)) = true
  · rw [if_pos h2] at h; omega
  rw [if_neg h2] at h
  by_cases h3 : acpE x.pth ≠ 0
  · rw [if_pos h3] at h; exact absurd h h3
  rw [if_neg h3] at h
  by_cases h4 : badPlace x
  · rw [if_pos h4] at h; omega
  have h3' : acpE x.pth = 0 := by simpa using h3
  have h2' : identB x.cls = true ∧ identB x.mth = true ∧ identB x.tag = true := by
    cases a : identB x.cls <;> cases b : identB x.mth <;> cases c : identB x.tag <;> simp [a, b, c] at h2 ⊢
  obtain ⟨a1, a2, a3, a4, a5⟩ := acpE_ok h3'
  have hr : x.pth.root = 1 ∨ x.pth.root = 2 := by unfold badPlace at h4; omega
  refine ⟨by omega, identB_size h2'.1, identB_size h2'.2.1, identB_size h2'.2.2, h3', hr, a2, ?_, a4, fun f hf => identB_size (List.all_eq_true.1 a5 f hf)⟩
  rcases hr with e | e
  · rw [e] at a3; exact a3
  · rw [e] at a3
    have : mostI 2 = 0 := rfl
    omega
theorem flat_len {α : Type} (f : α → List UInt8) (m : Nat) : ∀ l : List α, (∀ x ∈ l, (f x).length ≤ m) → (l.flatMap f).length ≤ m * l.length
  | [], _ => by simp
  | x :: l, h => by
    rw [List.flatMap_cons, List.length_append, List.length_cons, Nat.mul_add]
    have h1 := h x (by simp)
    have h2 := flat_len f m l (fun y hy => h y (by simp [hy]))
    omega
theorem flat_take {α : Type} (f : α → List UInt8) {l : List α} {k : Nat} (h : k < l.length) : (l.take (k + 1)).flatMap f = (l.take k).flatMap f ++ f l[k] := by
  rw [List.take_succ_eq_append_getElem h, List.flatMap_append]
  simp
structure PtcV (p : Ptc) : Prop where
  ok : ptcE p = 0
  cls : p.cls.size ≤ 32
  len : p.states.length ≤ 16
  sz : ∀ s ∈ p.states, s.size ≤ 32
  start : inSt p.states.length p.start
  err : inSt p.states.length p.err
  mlen : p.moves.length ≤ 256
  mv : ∀ k (h : k < p.moves.length), inSt p.states.length p.moves[k].src ∧ inSt p.states.length p.moves[k].dst ∧ p.moves[k].mth.size ≤ 32
theorem ptcE_ok {p : Ptc} (h : ptcE p = 0) : PtcV p := by
  have h' := h
  unfold ptcE at h
  by_cases h1 : identB p.cls = false
  · rw [if_pos h1] at h; omega
  rw [if_neg h1] at h
  by_cases h2 : 16 < p.states.length ∨ 256 < p.moves.length
  · rw [if_pos h2] at h; omega
  rw [if_neg h2] at h
  by_cases h3 : p.states.length = 0
  · rw [if_pos h3] at h; omega
  rw [if_neg h3] at h
  by_cases h4 : firstE (stF p.states) p.states.length ≠ 0
  · rw [if_pos h4] at h; exact absurd h h4
  rw [if_neg h4] at h
  by_cases h5 : ¬ (inSt p.states.length p.start ∧ inSt p.states.length p.err)
  · rw [if_pos h5] at h; omega
  rw [if_neg h5] at h
  by_cases h6 : p.start = p.err
  · rw [if_pos h6] at h; omega
  rw [if_neg h6] at h
  have h4' : firstE (stF p.states) p.states.length = 0 := by simpa using h4
  have h5' : inSt p.states.length p.start ∧ inSt p.states.length p.err := by simpa using h5
  refine ⟨h', identB_size (by simpa using h1), by omega, fun s hs => ?_, h5'.1, h5'.2, by omega, fun k hk => ?_⟩
  · obtain ⟨i, hi, rfl⟩ := List.getElem_of_mem hs
    have := firstE_all h4' i hi
    rw [stF_at hi] at this
    by_cases e : identB p.states[i] = false
    · rw [if_pos e] at this; omega
    · exact identB_size (by simpa using e)
  · have := firstE_all h k hk
    rw [mvF_at hk] at this
    by_cases e : ¬ (inSt p.states.length p.moves[k].src ∧ inSt p.states.length p.moves[k].dst)
    · rw [if_pos e] at this; omega
    rw [if_neg e] at this
    have e' : inSt p.states.length p.moves[k].src ∧ inSt p.states.length p.moves[k].dst := by simpa using e
    by_cases e2 : identB p.moves[k].mth = false
    · rw [if_pos e2] at this; omega
    exact ⟨e'.1, e'.2, identB_size (by simpa using e2)⟩
theorem polE_okV {p : Pol} (h : (polE p).2 = 0) : (∀ x ∈ p.rules, RulV x) ∧ (∀ x ∈ p.protocols, PtcV x) := by
  unfold polE at h
  by_cases hl : 64 < p.rules.length ∨ 64 < p.protocols.length
  · rw [if_pos hl] at h; exact absurd h (by decide)
  rw [if_neg hl] at h
  cases h1 : firstP (rlF p.rules) p.rules.length with
  | some k =>
    rw [h1] at h
    have := List.find?_some h1
    simp at this
    exact absurd h this
  | none =>
    rw [h1] at h
    cases h2 : firstP (ptF p.protocols) p.protocols.length with
    | some k =>
      rw [h2] at h
      have := List.find?_some h2
      simp at this
      exact absurd h this
    | none =>
      refine ⟨fun x hx => ?_, fun x hx => ?_⟩
      · obtain ⟨i, hi, rfl⟩ := List.getElem_of_mem hx
        have h3 := List.find?_eq_none.1 h1 i (by simpa using hi)
        rw [rlF_at hi] at h3
        exact rulE_ok (by simpa using h3)
      · obtain ⟨i, hi, rfl⟩ := List.getElem_of_mem hx
        have h3 := List.find?_eq_none.1 h2 i (by simpa using hi)
        rw [ptF_at hi] at h3
        by_cases e : ptcE p.protocols[i] ≠ 0
        · rw [if_pos e] at h3; simp at h3; exact absurd h3 e
        · exact ptcE_ok (by simpa using e)
end Go.Proofs.YthabojhnliomnaaGreatDoor
