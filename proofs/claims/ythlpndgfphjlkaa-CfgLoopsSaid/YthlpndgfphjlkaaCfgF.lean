/-
  Chapter 14: the reference's Put: a number in its place, once.
-/
import Derived.Test.YthlpndgfphjlkaaCfgE
namespace Go.Proofs.Ythlpndgfphjlkaa
open Go.RowKit
set_option linter.unusedVariables false

def putL : List Int → Int → List Int
  | [], x => [x]
  | y :: l, x => if y < x then y :: putL l x else if y = x then y :: l else x :: y :: l
theorem putL_same : ∀ {l : List Int} {x : Int} {k : Nat} (hk : k < l.length), (∀ i (h : i < l.length), i < k → l[i] < x) → l[k] = x → putL l x = l
  | y :: l, x, 0, hk, h1, h2 => by
    have h2' : y = x := h2
    unfold putL
    rw [if_neg (by omega), if_pos h2']
  | y :: l, x, k + 1, hk, h1, h2 => by
    have h0 : y < x := h1 0 (by simp) (by omega)
    unfold putL
    rw [if_pos h0, putL_same (l := l) (k := k) (by simpa using hk) (fun i h hi => by have := h1 (i + 1) (by simp; omega) (by omega); simpa using this) (by simpa using h2)]
theorem putL_new : ∀ {l : List Int} {x : Int} {k : Nat} (hk : k ≤ l.length), (∀ i (h : i < l.length), i < k → l[i] < x) → (∀ h : k < l.length, x < l[k]) → putL l x = l.take k ++ [x] ++ l.drop k
  | [], x, 0, hk, h1, h2 => rfl
  | y :: l, x, 0, hk, h1, h2 => by
    have h0 : x < y := h2 (by simp)
    unfold putL
    rw [if_neg (by omega), if_neg (by omega)]
    rfl
  | y :: l, x, k + 1, hk, h1, h2 => by
    have h0 : y < x := h1 0 (by simp) (by omega)
    unfold putL
    rw [if_pos h0, putL_new (l := l) (k := k) (by simpa using hk) (fun i h hi => by have := h1 (i + 1) (by simp; omega) (by omega); simpa using this) (fun h => by have := h2 (by simp; omega); simpa using this)]
    rfl
theorem putL_len : ∀ (l : List Int) (x : Int), (putL l x).length ≤ l.length + 1
  | [], x => by simp [putL]
  | y :: l, x => by
    have := putL_len l x
    unfold putL
    split
    · simp; omega
    · split <;> simp
theorem mem_putL {x z : Int} : ∀ {l : List Int}, z ∈ putL l x ↔ z = x ∨ z ∈ l
  | [] => by simp [putL]
  | y :: l => by
    unfold putL
    split
    · simp only [List.mem_cons, mem_putL (l := l)]
      constructor
      · rintro (h | h | h)
        · exact Or.inr (Or.inl h)
        · exact Or.inl h
        · exact Or.inr (Or.inr h)
      · rintro (h | h | h)
        · exact Or.inr (Or.inl h)
        · exact Or.inl h
        · exact Or.inr (Or.inr h)
    · split
      · rename_i h; subst h; simp
      · simp
theorem putL_asc {x : Int} : ∀ {l : List Int}, l.Pairwise (· < ·) → (putL l x).Pairwise (· < ·)
  | [], _ => by simp [putL]
  | y :: l, h => by
    rw [List.pairwise_cons] at h
    unfold putL
    split
    · rename_i hy
      rw [List.pairwise_cons]
      refine ⟨fun z hz => ?_, putL_asc h.2⟩
      rcases mem_putL.1 hz with rfl | hz
      · exact hy
      · exact h.1 z hz
    · split
      · exact List.pairwise_cons.2 h
      · rename_i h1 h2
        rw [List.pairwise_cons]
        refine ⟨fun z hz => ?_, List.pairwise_cons.2 h⟩
        rcases List.mem_cons.1 hz with rfl | hz
        · omega
        · have := h.1 z hz; omega
end Go.Proofs.Ythlpndgfphjlkaa
