/-
  Chapter 42: the error of a policy and its index, as a plain function.
-/
import Derived.Test.YthabojhnliomnaaGreatDoorPolK
namespace Go.Proofs.YthabojhnliomnaaGreatDoor
open Go.RowKit
set_option linter.unusedVariables false

theorem firstE_all {f : Nat → Int} {k : Nat} (h : firstE f k = 0) : ∀ j, j < k → f j = 0 := by
  induction k with
  | zero => intro j hj; omega
  | succ k ih =>
    rw [firstE] at h
    split at h
    · rename_i hn; exact absurd h hn
    · rename_i hn
      have h0 : firstE f k = 0 := by simpa using hn
      intro j hj
      by_cases e : j = k
      · subst e; exact h
      · exact ih h0 j (by omega)
/-- The first place with an error, and that error. -/
def firstP (f : Nat → Int) (n : Nat) : Option Nat := (List.range n).find? (fun k => decide (f k ≠ 0))
theorem firstP_hit {f : Nat → Int} {k n : Nat} (h : firstE f k = 0) (hk : f k ≠ 0) (hn : k < n) : firstP f n = some k := by
  unfold firstP
  rw [List.find?_range_eq_some]
  exact ⟨by simpa using hk, by simpa using hn, fun j hj => by simpa using firstE_all h j hj⟩
theorem firstP_none {f : Nat → Int} {n : Nat} (h : firstE f n = 0) : firstP f n = none := by
  unfold firstP
  rw [List.find?_range_eq_none]
  exact fun j hj => by simpa using firstE_all h j hj
def rlF (l : List Rul) (k : Nat) : Int := match l[k]? with
  | some x => rulE x
  | none => 0
theorem rlF_at {l : List Rul} {k : Nat} (h : k < l.length) : rlF l k = rulE l[k] := by unfold rlF; rw [List.getElem?_eq_getElem h]
def metB (l : List Ptc) (k : Nat) (s : ByteArray) : Bool := (l.take k).any fun x => x.cls.toList == s.toList
def ptF (l : List Ptc) (k : Nat) : Int := match l[k]? with
  | some x => if ptcE x ≠ 0 then ptcE x else if metB l k x.cls then 7 else 0
  | none => 0
theorem ptF_at {l : List Ptc} {k : Nat} (h : k < l.length) : ptF l k = if ptcE l[k] ≠ 0 then ptcE l[k] else if metB l k l[k].cls then 7 else 0 := by unfold ptF; rw [List.getElem?_eq_getElem h]
theorem metB_yes {l : List Ptc} {k j : Nat} {s : ByteArray} (hj : j < k) (hl : j < l.length) (h : (l[j].cls.toList == s.toList) = true) : metB l k s = true := by
  unfold metB
  rw [List.any_eq_true]
  exact ⟨l[j], List.mem_iff_getElem.2 ⟨j, by rw [List.length_take]; omega, by simp⟩, h⟩
theorem metB_no {l : List Ptc} {k : Nat} {s : ByteArray} (h : ∀ j (hl : j < l.length), j < k → (l[j].cls.toList == s.toList) = false) : metB l k s = false := by
  unfold metB
  rw [List.any_eq_false]
  intro x hx
  obtain ⟨j, hj, rfl⟩ := List.mem_iff_getElem.1 hx
  rw [List.length_take] at hj
  simp only [List.getElem_take]
  rw [h j (by omega) (by omega)]
  simp
/-- The index and the error of a policy. -/
def polE (p : Pol) : Int × Int :=
  if 64 < p.rules.length ∨ 64 < p.protocols.length then (-1, 3) else
  match firstP (rlF p.rules) p.rules.length with
  | some k => ((k : Int), rlF p.rules k)
  | none => match firstP (ptF p.protocols) p.protocols.length with
    | some k => ((p.rules.length : Int) + k, ptF p.protocols k)
    | none => (0, 0)
theorem polE_long {p : Pol} (h : 64 < p.rules.length ∨ 64 < p.protocols.length) : polE p = (-1, 3) := if_pos h
theorem polE_rule {p : Pol} (h : ¬ (64 < p.rules.length ∨ 64 < p.protocols.length)) {k : Nat} (hk : k < p.rules.length) (h0 : firstE (rlF p.rules) k = 0) (he : rulE p.rules[k] ≠ 0) : polE p = ((k : Int), rulE p.rules[k]) := by
  unfold polE
  rw [if_neg h, firstP_hit h0 (by rw [rlF_at hk]; exact he) hk]
  show ((k : Int), rlF p.rules k) = _
  rw [rlF_at hk]
theorem polE_ptc {p : Pol} (h : ¬ (64 < p.rules.length ∨ 64 < p.protocols.length)) (hr : firstE (rlF p.rules) p.rules.length = 0) {k : Nat} (hk : k < p.protocols.length) (h0 : firstE (ptF p.protocols) k = 0) (he : ptF p.protocols k ≠ 0) : polE p = ((p.rules.length : Int) + k, ptF p.protocols k) := by
  unfold polE
  rw [if_neg h, firstP_none hr, firstP_hit h0 he hk]
theorem polE_ok {p : Pol} (h : ¬ (64 < p.rules.length ∨ 64 < p.protocols.length)) (hr : firstE (rlF p.rules) p.rules.length = 0) (h0 : firstE (ptF p.protocols) p.protocols.length = 0) : polE p = (0, 0) := by
  unfold polE
  rw [if_neg h, firstP_none hr, firstP_none h0]
end Go.Proofs.YthabojhnliomnaaGreatDoor
