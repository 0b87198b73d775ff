/-
  A string in its place in an ascending list, once. Plain mathematics.
-/
import Derived.Test.YtlcdnkloijehjaaGreatDoorSortS
namespace Go.Proofs.YtlcdnkloijehjaaGreatDoor
set_option linter.unusedVariables false

def putS : List ByteArray → ByteArray → List ByteArray
  | [], x => [x]
  | y :: l, x => if toL y < toL x then y :: putS l x else if y = x then y :: l else x :: y :: l
theorem putS_same : ∀ {l : List ByteArray} {x : ByteArray} {k : Nat} (hk : k < l.length), (∀ i (h : i < l.length), i < k → toL l[i] < toL x) → l[k] = x → putS l x = l
  | y :: l, x, 0, hk, h1, h2 => by
    have h2' : y = x := h2
    subst h2'
    unfold putS
    rw [if_neg (ltL_irrefl _), if_pos rfl]
  | y :: l, x, k + 1, hk, h1, h2 => by
    have h0 : toL y < toL x := h1 0 (by simp) (by omega)
    unfold putS
    rw [if_pos h0, putS_same (l := l) (k := k) (by simpa using hk) (fun i h hi => by have := h1 (i + 1) (by simp; omega) (by omega); simpa using this) (by simpa using h2)]
theorem putS_new : ∀ {l : List ByteArray} {x : ByteArray} {k : Nat} (hk : k ≤ l.length), (∀ i (h : i < l.length), i < k → toL l[i] < toL x) → (∀ h : k < l.length, ¬ toL l[k] < toL x ∧ l[k] ≠ x) → putS l x = l.take k ++ [x] ++ l.drop k
  | [], x, 0, hk, h1, h2 => rfl
  | y :: l, x, 0, hk, h1, h2 => by
    have h0 : ¬ toL y < toL x ∧ y ≠ x := h2 (by simp)
    unfold putS
    rw [if_neg h0.1, if_neg h0.2]
    rfl
  | y :: l, x, k + 1, hk, h1, h2 => by
    have h0 : toL y < toL x := h1 0 (by simp) (by omega)
    unfold putS
    rw [if_pos h0, putS_new (l := l) (k := k) (by simpa using hk) (fun i h hi => by have := h1 (i + 1) (by simp; omega) (by omega); simpa using this) (fun h => by have := h2 (by simp; omega); simpa using this)]
    rfl
theorem putS_len : ∀ (l : List ByteArray) (x : ByteArray), (putS l x).length ≤ l.length + 1
  | [], x => by simp [putS]
  | y :: l, x => by
    have := putS_len l x
    unfold putS
    split
    · simp; omega
    · split <;> simp
theorem mem_putS {x z : ByteArray} : ∀ {l : List ByteArray}, z ∈ putS l x ↔ z = x ∨ z ∈ l
  | [] => by simp [putS]
  | y :: l => by
    unfold putS
    split
    · simp only [List.mem_cons, mem_putS (l := l)]
      constructor
      · rintro (h | h | h)
        · exact Or.inr (Or.inl h)
        · exact Or.inl h
        · exact Or.inr (Or.inr h)
      · rintro (h | h | h)
        · exact Or.inr (Or.inl h)
        · exact Or.inl h
        · exact Or.inr (Or.inr h)
    · split
      · rename_i h; subst h; simp
      · simp
theorem putS_asc {x : ByteArray} : ∀ {l : List ByteArray}, AscS l → AscS (putS l x)
  | [], _ => by simp [putS, AscS]
  | y :: l, h => by
    unfold AscS at h ⊢
    rw [List.pairwise_cons] at h
    unfold putS
    split
    · rename_i hy
      rw [List.pairwise_cons]
      refine ⟨fun z hz => ?_, putS_asc h.2⟩
      rcases mem_putS.1 hz with rfl | hz
      · exact hy
      · exact h.1 z hz
    · split
      · exact List.pairwise_cons.2 h
      · rename_i h1 h2
        have hxy : toL x < toL y := ltL_of (List.not_lt.1 h1) (fun e => h2 (toL_inj e).symm)
        rw [List.pairwise_cons]
        refine ⟨fun z hz => ?_, List.pairwise_cons.2 h⟩
        rcases List.mem_cons.1 hz with rfl | hz
        · exact hxy
        · exact ltL_trans hxy (h.1 z hz)
/-- Put one after the other. -/
def putAllS (l : List ByteArray) : List ByteArray := l.foldl putS []
theorem putAllS_snoc (l : List ByteArray) (x : ByteArray) : putAllS (l ++ [x]) = putS (putAllS l) x := by unfold putAllS; rw [List.foldl_append]; rfl
theorem foldl_putS : ∀ (l m : List ByteArray), AscS m → AscS (l.foldl putS m) ∧ ∀ x, x ∈ l.foldl putS m ↔ x ∈ m ∨ x ∈ l
  | [], m, h => ⟨h, fun x => by simp⟩
  | y :: l, m, h => by
    obtain ⟨h1, h2⟩ := foldl_putS l (putS m y) (putS_asc h)
    refine ⟨h1, fun x => ?_⟩
    rw [List.foldl_cons, h2, mem_putS, List.mem_cons]
    constructor
    · rintro ((h | h) | h)
      · exact Or.inr (Or.inl h)
      · exact Or.inl h
      · exact Or.inr (Or.inr h)
    · rintro (h | h | h)
      · exact Or.inl (Or.inr h)
      · exact Or.inl (Or.inl h)
      · exact Or.inr h
theorem putAllS_eq (l : List ByteArray) : putAllS l = ascS l :=
  AscS.ext (foldl_putS l [] (by simp [AscS])).1 (ascS_spec l).1 fun x => by rw [(ascS_spec l).2]; unfold putAllS; rw [(foldl_putS l [] (by simp [AscS])).2]; simp
theorem putAllS_len (l : List ByteArray) : (putAllS l).length ≤ l.length := by rw [putAllS_eq]; exact ascS_len l
end Go.Proofs.YtlcdnkloijehjaaGreatDoor
