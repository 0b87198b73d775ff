/-
  (As XPrsA, over XByt.) Lists of bytes cut at one byte, in plain words; strings.Cut, strings.Split at one byte.
-/
import Derived.Test.YtlcdnkloijehjaaGreatDoorByt
namespace Go.Proofs.YtlcdnkloijehjaaGreatDoor
open Go.RowKit
set_option linter.unusedVariables false

/-- The pieces between the bytes c: at least one. -/
def spl (c : UInt8) : List UInt8 → List (List UInt8)
  | [] => [[]]
  | x :: r => if x = c then [] :: spl c r else match spl c r with
    | h :: t => (x :: h) :: t
    | [] => [[x]]
theorem spl_ne (c : UInt8) : ∀ l, spl c l ≠ []
  | [] => by simp [spl]
  | x :: r => by
    unfold spl
    split
    · simp
    · split <;> simp
theorem spl_free {c : UInt8} : ∀ {l : List UInt8}, c ∉ l → spl c l = [l]
  | [], _ => rfl
  | x :: r, h => by
    have h1 : x ≠ c := fun e => h (by rw [e]; simp)
    have h2 : c ∉ r := fun e => h (by simp [e])
    unfold spl
    rw [if_neg h1, spl_free h2]
theorem spl_mid {c : UInt8} : ∀ {a t : List UInt8}, c ∉ a → spl c (a ++ c :: t) = a :: spl c t
  | [], t, _ => by simp [spl]
  | x :: r, t, h => by
    have h1 : x ≠ c := fun e => h (by rw [e]; simp)
    have h2 : c ∉ r := fun e => h (by simp [e])
    rw [List.cons_append, spl, if_neg h1, spl_mid h2]
theorem spl_cases (c : UInt8) (l : List UInt8) : (c ∉ l ∧ spl c l = [l]) ∨ ∃ a t, l = a ++ c :: t ∧ c ∉ a ∧ spl c l = a :: spl c t := by
  by_cases h : c ∈ l
  · obtain ⟨a, t, rfl, ha⟩ := List.eq_append_cons_of_mem h
    exact Or.inr ⟨a, t, rfl, ha, spl_mid ha⟩
  · exact Or.inl ⟨h, spl_free h⟩
/-- The pieces put together again. -/
def glue (c : UInt8) : List (List UInt8) → List UInt8
  | [] => []
  | [x] => x
  | x :: y :: r => x ++ c :: glue c (y :: r)
theorem glue_spl (c : UInt8) : ∀ l, glue c (spl c l) = l
  | [] => rfl
  | x :: r => by
    have ih := glue_spl c r
    unfold spl
    split
    · rename_i e
      subst e
      cases hs : spl x r with
      | nil => exact absurd hs (spl_ne _ _)
      | cons y t => rw [hs] at ih; simp [glue, ih]
    · cases hs : spl c r with
      | nil => exact absurd hs (spl_ne _ _)
      | cons y t =>
        rw [hs] at ih
        cases t with
        | nil => simp [glue] at ih ⊢; exact ih
        | cons z t => simp [glue] at ih ⊢; exact ih
theorem spl_glue {c : UInt8} : ∀ {ls : List (List UInt8)}, ls ≠ [] → (∀ x ∈ ls, c ∉ x) → spl c (glue c ls) = ls
  | [], h, _ => absurd rfl h
  | [x], _, h => spl_free (h x (by simp))
  | x :: y :: r, _, h => by
    rw [glue, spl_mid (h x (by simp)), spl_glue (by simp) (fun z hz => h z (by simp [hz]))]
theorem spl_mem {c : UInt8} : ∀ {l x : List UInt8}, x ∈ spl c l → c ∉ x
  | [], x, h => by simp [spl] at h; subst h; simp
  | y :: r, x, h => by
    unfold spl at h
    split at h
    · rcases List.mem_cons.1 h with rfl | h
      · simp
      · exact spl_mem h
    · rename_i hne
      cases hs : spl c r with
      | nil => exact absurd hs (spl_ne _ _)
      | cons z t =>
        rw [hs] at h
        rcases List.mem_cons.1 h with rfl | h
        · have := spl_mem (c := c) (l := r) (x := z) (by rw [hs]; simp)
          intro hm
          rcases List.mem_cons.1 hm with e | hm
          · exact hne e.symm
          · exact this hm
        · exact spl_mem (l := r) (by rw [hs]; simp [h])
theorem spl_len (c : UInt8) (l : List UInt8) : (spl c l).length ≤ l.length + 1 := by
  induction l with
  | nil => simp [spl]
  | cons x r ih =>
    unfold spl
    split
    · simp; omega
    · cases hs : spl c r with
      | nil => simp
      | cons z t => rw [hs] at ih; simp at ih ⊢; omega
theorem spl_piece {c : UInt8} {l x : List UInt8} (h : x ∈ spl c l) : x.length ≤ l.length := by
  induction l generalizing x with
  | nil => simp [spl] at h; subst h; simp
  | cons y r ih =>
    unfold spl at h
    split at h
    · rcases List.mem_cons.1 h with rfl | h
      · simp
      · have := ih h; simp; omega
    · cases hs : spl c r with
      | nil => exact absurd hs (spl_ne _ _)
      | cons z t =>
        rw [hs] at h
        rcases List.mem_cons.1 h with rfl | h
        · have := ih (x := z) (by rw [hs]; simp)
          simp; omega
        · have := ih (x := x) (by rw [hs]; simp [h])
          simp; omega
theorem index_free {c : UInt8} : ∀ {l : List UInt8}, c ∉ l → Lib.index l [c] = -1
  | [], _ => rfl
  | x :: r, h => by
    have h1 : ¬ c = x := fun e => h (by rw [e]; simp)
    have h2 : c ∉ r := fun e => h (by simp [e])
    unfold Lib.index
    rw [index_free h2]
    simp [h1]
theorem index_mid {c : UInt8} : ∀ {a t : List UInt8}, c ∉ a → Lib.index (a ++ c :: t) [c] = a.length
  | [], t, _ => by simp [Lib.index]
  | x :: r, t, h => by
    have h1 : ¬ c = x := fun e => h (by rw [e]; simp)
    have h2 : c ∉ r := fun e => h (by simp [e])
    rw [List.cons_append]
    unfold Lib.index
    rw [index_mid h2]
    have h3 : ((r.length : Int) == -1) = false := by rw [beq_eq_false_iff_ne]; omega
    simp [h1, h3]
theorem cut_free {c : UInt8} {l : List UInt8} (h : c ∉ l) : Lib.cut l [c] = (l, [], false) := by
  unfold Lib.cut
  rw [index_free h]
  simp
theorem cut_mid {c : UInt8} {a t : List UInt8} (h : c ∉ a) : Lib.cut (a ++ c :: t) [c] = (a, t, true) := by
  unfold Lib.cut
  rw [index_mid h, if_pos (by omega), Int.toNat_natCast]
  simp
/-- Cut, in the words of the pieces. -/
theorem cut_last {c : UInt8} {l x : List UInt8} (h : spl c l = [x]) : x = l ∧ Lib.cut l [c] = (l, [], false) := by
  rcases spl_cases c l with ⟨h1, h2⟩ | ⟨a, t, rfl, ha, h2⟩
  · rw [h2] at h
    have : l = x := by simpa using h
    exact ⟨this.symm, cut_free h1⟩
  · rw [h2] at h
    have : spl c t = [] := by simpa using (List.cons.inj h).2
    exact absurd this (spl_ne _ _)
theorem cut_first {c : UInt8} {l x y : List UInt8} {r : List (List UInt8)} (h : spl c l = x :: y :: r) : ∃ t, Lib.cut l [c] = (x, t, true) ∧ spl c t = y :: r ∧ l = x ++ c :: t := by
  rcases spl_cases c l with ⟨h1, h2⟩ | ⟨a, t, rfl, ha, h2⟩
  · rw [h2] at h; simp at h
  · rw [h2] at h
    obtain ⟨rfl, h3⟩ := List.cons.inj h
    exact ⟨t, cut_mid ha, h3, rfl⟩
theorem contains_spl {c : UInt8} {l : List UInt8} : Lib.indexByte l c = -1 ↔ c ∉ l := by
  induction l with
  | nil => simp [Lib.indexByte]
  | cons x r ih =>
    unfold Lib.indexByte
    have hge := Lib.indexByte_ge r c
    by_cases e : (x == c) = true
    · rw [if_pos e]
      have : x = c := by simpa using e
      subst this
      simp
    · rw [if_neg e]
      have e' : c ≠ x := fun h => e (by rw [h]; simp)
      by_cases h : (Lib.indexByte r c == -1) = true
      · rw [if_pos h]
        have h2 := ih.1 (by simpa using h)
        simp [e', h2]
      · rw [if_neg h]
        have h1 : ¬ Lib.indexByte r c = -1 := by simpa using h
        have h2 : c ∈ r := Classical.byContradiction fun hn => h1 (ih.2 hn)
        constructor
        · intro h3; omega
        · intro h3; exact absurd (List.mem_cons_of_mem _ h2) h3
theorem splitB_spl (c : UInt8) : ∀ (n : Nat) (s : ByteArray), s.size ≤ n → (Lib.splitB ⟨#[c]⟩ 0 (Lib.countB s ⟨#[c]⟩) s).map toL = spl c (toL s) ∧ Lib.countB s ⟨#[c]⟩ + 1 = (spl c (toL s)).length
  | n, s, hn => by
    rcases spl_cases c (toL s) with ⟨h1, h2⟩ | ⟨a, t, h, ha, h2⟩
    · have hi : Lib.indexB s ⟨#[c]⟩ = -1 := index_free h1
      rw [Lib.countB_miss s _ hi, Lib.splitB_zero, h2]
      exact ⟨rfl, rfl⟩
    · have hi : Lib.indexB s ⟨#[c]⟩ = (a.length : Nat) := by
        show Lib.index (toL s) [c] = _
        rw [h]
        exact index_mid ha
      have hsz : s.size = a.length + 1 + t.length := by rw [← toL_len, h]; simp; omega
      have e1 : toL (s.extract 0 (a.length + 0)) = a := by
        show (s.extract 0 (a.length + 0)).data.toList = a
        rw [Lib.extract_from_zero]
        show (toL s).take _ = a
        rw [h]
        simp
      have e2 : toL (s.extract (a.length + (⟨#[c]⟩ : ByteArray).size) s.size) = t := by
        show (s.extract (a.length + 1) s.size).data.toList = t
        rw [Lib.extract_to_end]
        show (toL s).drop _ = t
        rw [h]
        simp
      have hlt : (s.extract (a.length + (⟨#[c]⟩ : ByteArray).size) s.size).size = t.length := by rw [← toL_len, e2]
      match n, hn with
      | 0, hn => omega
      | n + 1, hn =>
        obtain ⟨i1, i2⟩ := splitB_spl c n (s.extract (a.length + (⟨#[c]⟩ : ByteArray).size) s.size) (by rw [hlt]; omega)
        rw [e2] at i1 i2
        rw [Lib.countB_hit s ⟨#[c]⟩ a.length (Nat.le_refl 1) hi, Nat.add_comm 1, Lib.splitB_hit _ _ _ _ _ hi, List.map_cons, e1, i1, h2]
        refine ⟨rfl, ?_⟩
        rw [List.length_cons, ← i2]
end Go.Proofs.YtlcdnkloijehjaaGreatDoor
