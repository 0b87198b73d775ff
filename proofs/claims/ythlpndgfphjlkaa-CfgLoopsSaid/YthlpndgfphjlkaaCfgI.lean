/-
  Chapter 14: the nodes that follow an instruction: ascending, and which they are. Plain mathematics.
-/
import Derived.Test.YthlpndgfphjlkaaCfgH
namespace Go.Proofs.Ythlpndgfphjlkaa
set_option linter.unusedVariables false

theorem nextL_asc (i : Nat) (x : Ins) : (nextL i x).Pairwise (· < ·) := by
  unfold nextL
  (repeat' split) <;> simp
  · assumption
  · omega
theorem normL_asc (n i : Nat) (x : Ins) : (normL n i x).Pairwise (· < ·) := by
  unfold normL
  split
  · simp
  · exact nextL_asc i x
theorem allL_asc (n i : Nat) (x : Ins) : (allL n i x).Pairwise (· < ·) := by
  unfold allL
  split
  · exact putL_asc (normL_asc n i x)
  · exact normL_asc n i x
theorem raisedI_closed {n i : Nat} {x : Ins} (h : ClosedAt n i x) : raisedI n x = if raisesB x then hndI n x else -1 := by
  unfold raisedI hndI
  have := h.hnd
  cases raisesB x with
  | false => rfl
  | true =>
    simp only [if_true]
    by_cases h1 : x.hnd = -1
    · rw [if_neg (by omega), if_pos h1]
    · rw [if_pos (by omega), if_neg h1]
theorem mem_allL {n i : Nat} {x : Ins} (h : ClosedAt n i x) (z : Int) : z ∈ allL n i x ↔ z ∈ normL n i x ∨ (raisesB x = true ∧ z = hndI n x) := by
  unfold allL
  rw [raisedI_closed h]
  have hh := h.hnd
  cases hr : raisesB x with
  | false => simp
  | true =>
    have h0 : 0 ≤ hndI n x := by unfold hndI; split <;> omega
    simp only [if_true]
    rw [if_pos h0, mem_putL]
    constructor
    · rintro (h | h)
      · exact Or.inr ⟨trivial, h⟩
      · exact Or.inl h
    · rintro (h | ⟨_, h⟩)
      · exact Or.inr h
      · exact Or.inl h
end Go.Proofs.Ythlpndgfphjlkaa
