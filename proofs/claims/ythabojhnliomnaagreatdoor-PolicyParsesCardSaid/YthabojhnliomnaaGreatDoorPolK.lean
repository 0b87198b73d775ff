/-
  Chapter 39: the error of a protocol, as a plain function.
-/
import Derived.Test.YthabojhnliomnaaGreatDoorPolJ
namespace Go.Proofs.YthabojhnliomnaaGreatDoor
open Go.RowKit
set_option linter.unusedVariables false

/-- The first error among the first k places. -/
def firstE (f : Nat → Int) : Nat → Int
  | 0 => 0
  | k + 1 => if firstE f k ≠ 0 then firstE f k else f k
theorem firstE_pass {f : Nat → Int} {k : Nat} (h : firstE f k = 0) (hk : f k = 0) : firstE f (k + 1) = 0 := by
  rw [firstE, if_neg (by omega), hk]
theorem firstE_hit {f : Nat → Int} {k n : Nat} (h : firstE f k = 0) (hk : f k ≠ 0) (hn : k < n) : firstE f n = f k := by
  induction n with
  | zero => omega
  | succ n ih =>
    rw [firstE]
    by_cases e : k = n
    · subst e
      rw [if_neg (by omega)]
    · have := ih (by omega)
      rw [if_pos (by rw [this]; exact hk), this]
/-- The error of the state with index k. -/
def stF (l : List ByteArray) (k : Nat) : Int :=
  match l[k]? with
  | some s => if identB s = false then 5 else if 0 ≤ atI (l.take k) s then 7 else 0
  | none => 0
theorem stF_at {l : List ByteArray} {k : Nat} (h : k < l.length) : stF l k = if identB l[k] = false then 5 else if 0 ≤ atI (l.take k) l[k] then 7 else 0 := by
  unfold stF
  rw [List.getElem?_eq_getElem h]
def inSt (n : Nat) (q : Int) : Prop := 0 ≤ q ∧ q < n
instance (n : Nat) (q : Int) : Decidable (inSt n q) := by unfold inSt; exact inferInstance
/-- The error of the move with index k. -/
def mvF (n : Nat) (er : Int) (l : List Mov) (k : Nat) : Int :=
  match l[k]? with
  | some m => if ¬ (inSt n m.src ∧ inSt n m.dst) then 4 else if identB m.mth = false then 5 else if m.src = er then 22 else (match l[k - 1]? with | some x => if 0 < k ∧ 0 ≤ cmpM x m then 13 else 0 | none => 0)
  | none => 0
theorem mvF_at {n : Nat} {er : Int} {l : List Mov} {k : Nat} (h : k < l.length) : mvF n er l k = if ¬ (inSt n l[k].src ∧ inSt n l[k].dst) then 4 else if identB l[k].mth = false then 5 else if l[k].src = er then 22 else if 0 < k ∧ 0 ≤ cmpM (l[k - 1]'(by omega)) l[k] then 13 else 0 := by
  unfold mvF
  rw [List.getElem?_eq_getElem h, List.getElem?_eq_getElem (show k - 1 < l.length by omega)]
/-- The error of a protocol. -/
def ptcE (p : Ptc) : Int :=
  if identB p.cls = false then 5 else if 16 < p.states.length ∨ 256 < p.moves.length then 3 else if p.states.length = 0 then 4 else
  if firstE (stF p.states) p.states.length ≠ 0 then firstE (stF p.states) p.states.length else
  if ¬ (inSt p.states.length p.start ∧ inSt p.states.length p.err) then 4 else if p.start = p.err then 1 else firstE (mvF p.states.length p.err p.moves) p.moves.length
/-- The reference's order test: behind, or at the same place with no later method. -/
theorem cmpM_ge (x m : Mov) : 0 ≤ cmpM x m ↔ m.src < x.src ∨ (x.src = m.src ∧ ¬ toL x.mth < toL m.mth) := by
  unfold cmpM orI
  rcases Int.lt_trichotomy x.src m.src with h | h | h
  · rw [cmpI_lt h]; simp; omega
  · rw [h, cmpI_eq]
    simp only [if_true]
    unfold cmpS
    by_cases h1 : toL x.mth < toL m.mth
    · rw [if_pos h1]; simp [h1]
    · rw [if_neg h1]
      simp only [h1, not_false_eq_true, and_self, or_true, iff_true]
      split <;> omega
  · rw [cmpI_gt h]; simp [h]
end Go.Proofs.YthabojhnliomnaaGreatDoor
