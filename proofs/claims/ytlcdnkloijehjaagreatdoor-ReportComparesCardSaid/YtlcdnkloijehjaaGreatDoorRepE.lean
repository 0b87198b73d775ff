/-
  Chapter 45: words, and what a finding of a kind may name, in the program and in the reference.
-/
import Derived.Test.YtlcdnkloijehjaaGreatDoorRepD
namespace Go.Proofs.YtlcdnkloijehjaaGreatDoor
open Go.RowKit
set_option linter.unusedVariables false

theorem part_prt {c : UInt8} (h : partU c = true) : prtU c = true := by
  unfold partU partB letterB digitB at h
  unfold prtU
  simp only [Bool.or_eq_true, Bool.and_eq_true, decide_eq_true_eq, beq_iff_eq] at h ⊢
  omega
theorem ident_word {s : ByteArray} (h : identB s = true) : wordB s = true := by
  unfold identB at h
  simp only [Bool.and_eq_true, decide_eq_true_eq] at h
  obtain ⟨⟨⟨⟨h1, h2⟩, h3⟩, h4⟩, h5⟩ := h
  unfold wordB
  rw [decide_eq_true (show 1 ≤ s.size by omega), decide_eq_true h2]
  simp only [Bool.and_self, Bool.true_and]
  rw [List.all_eq_true] at h4 ⊢
  exact fun x hx => part_prt (h4 x hx)
theorem bool_word {s : ByteArray} (h : (s.toList == wTrue.toList || s.toList == wFalse.toList) = true) : wordB s = true := by
  rw [Bool.or_eq_true, beq_iff_eq, beq_iff_eq, ByteArray.toList_eq, ByteArray.toList_eq, ByteArray.toList_eq] at h
  rcases h with h | h
  · rw [show s = wTrue from toL_inj h]; decide
  · rw [show s = wFalse from toL_inj h]; decide
theorem what_word {k : Int} {s : ByteArray} (h : wordB s = false) : whatB k s = false := by
  unfold whatB
  split
  · cases hi : identB s with
    | false => rfl
    | true => rw [ident_word hi] at h; cases h
  · split
    · cases hi : (s.toList == wTrue.toList || s.toList == wFalse.toList) with
      | false => rfl
      | true => rw [bool_word hi] at h; cases h
    · exact h
theorem word_no {s : ByteArray} {k : Nat} (hk : k < s.size) (h : ((s[k].toNat : Int) < 33) ∨ (126 < (s[k].toNat : Int))) : wordB s = false := by
  cases hw : wordB s with
  | false => rfl
  | true =>
    unfold wordB at hw
    simp only [Bool.and_eq_true] at hw
    have := all_at.1 hw.2 k hk
    unfold prtU at this
    simp only [Bool.and_eq_true, decide_eq_true_eq] at this
    omega
theorem word_step {s : ByteArray} {k : Nat} (hk : k < s.size) (h1 : ¬ ((s[k].toNat : Int) < 33)) (h2 : ¬ (126 < (s[k].toNat : Int))) (H : ∀ j (h : j < s.size), j < k → prtU s[j] = true) : ∀ j (h : j < s.size), j < k + 1 → prtU s[j] = true := fun j h hj => by
  by_cases e : j = k
  · subst e
    unfold prtU
    simp only [Bool.and_eq_true, decide_eq_true_eq]
    omega
  · exact H j h (by omega)
theorem word_size {s : ByteArray} (h : ¬ (1 ≤ s.size ∧ s.size ≤ 32)) : wordB s = false := by
  unfold wordB
  by_cases h1 : 1 ≤ s.size
  · rw [decide_eq_false (show ¬ s.size ≤ 32 by omega)]; simp
  · rw [decide_eq_false h1]; simp
theorem word_yes {s : ByteArray} (h1 : 1 ≤ s.size) (h2 : s.size ≤ 32) (H : ∀ j (h : j < s.size), j < s.size → prtU s[j] = true) : wordB s = true := by
  unfold wordB
  rw [decide_eq_true h1, decide_eq_true h2, all_at.2 (fun i h => H i h h)]
  rfl
set_option maxHeartbeats 1000000 in
theorem refWord_any (s : ByteArray) (w : World) (hs : s.size ≤ 9223372036854775807) : Calls Tryz.prog 110 #[.string s] w fun e w' => e = .returned (.bool (wordB s)) ∧ w = w' := by
  obtain ⟨r, HR⟩ : ∃ r, Hid (r = wordB s) := ⟨_, Lib.hid rfl⟩
  rw [← HR.out]
  go_enter Tryz.func110, Tryz.ntmps110
  go_wp2_with fail
  go_loop [3] (fun i => ∃ k : Nat, k ≤ s.size ∧ i = .int .i64 k ∧ Hid (∀ j (h : j < s.size), j < k → prtU s[j] = true)) (fun i => s.size - (intOf i).toNat)
  case atStart => exact ⟨0, Nat.zero_le _, rfl, fun i h hi => by omega⟩
  case round =>
    obtain ⟨k, hk, rfl, HN⟩ := hrel
    by_cases hlt : k < s.size
    · by_cases h1 : (s[k].toNat : Int) < 33
      · have HB : Hid (r = false) := by show _ = _; rw [HR.out]; exact word_no hlt (Or.inl h1)
        go_wp2_with fail
        go_ret
        exact ⟨by rw [HB.out]; rfl, rfl⟩
      by_cases h2 : 126 < (s[k].toNat : Int)
      · have HB : Hid (r = false) := by show _ = _; rw [HR.out]; exact word_no hlt (Or.inr h2)
        go_wp2_with fail
        go_ret
        exact ⟨by rw [HB.out]; rfl, rfl⟩
      have HE := Lib.hid (word_step hlt h1 h2 HN.out)
      go_wp2_with fail
      go_round
      case rel => exact ⟨k + 1, by omega, by go_num, HE⟩
      case measure => simp [intOf]; omega
    · obtain rfl : k = s.size := by omega
      by_cases h1 : 1 ≤ s.size
      · by_cases h2 : s.size ≤ 32
        · have HB : Hid (r = true) := by show _ = _; rw [HR.out]; exact word_yes h1 h2 HN.out
          have g2 : decide ((s.size : Int) ≤ 32) = true := decide_eq_true (by omega)
          go_wp2_with fail
          go_ret
          exact ⟨by rw [HB.out]; rfl, rfl⟩
        · have HB : Hid (r = false) := by show _ = _; rw [HR.out]; exact word_size (by omega)
          have g2 : decide ((s.size : Int) ≤ 32) = false := decide_eq_false (by omega)
          go_wp2_with fail
          go_ret
          exact ⟨by rw [HB.out]; rfl, rfl⟩
      · have HB : Hid (r = false) := by show _ = _; rw [HR.out]; exact word_size (by omega)
        go_wp2_with fail
        go_ret
        exact ⟨by rw [HB.out]; rfl, rfl⟩
theorem whatB_id {k : Int} (h : k = 2 ∨ k = 3) (s : ByteArray) : whatB k s = identB s := if_pos h
theorem whatB_bool (s : ByteArray) : whatB 4 s = (s.toList == wTrue.toList || s.toList == wFalse.toList) := rfl
theorem whatB_word {k : Int} (h2 : ¬ k = 2) (h3 : ¬ k = 3) (h4 : ¬ k = 4) (s : ByteArray) : whatB k s = wordB s := by unfold whatB; rw [if_neg (by omega), if_neg h4]
set_option maxHeartbeats 1000000 in
theorem refNamed_any (k : Int) (s : ByteArray) (w : World) (hs : s.size ≤ 9223372036854775807) : Calls Tryz.prog 90 #[.int .i64 k, .string s] w fun e w' => e = .returned (.bool (whatB k s)) ∧ Below w.heap.size w w' := by
  obtain ⟨r, HR⟩ : ∃ r, Hid (r = whatB k s) := ⟨_, Lib.hid rfl⟩
  rw [← HR.out]
  have K1 := fun W => refIdent_any s W hs
  have K2 := fun W => refWord_any s W hs
  have t1 : wTrue.toList = [116, 114, 117, 101] := by rw [ByteArray.toList_eq]; rfl
  have t2 : wFalse.toList = [102, 97, 108, 115, 101] := by rw [ByteArray.toList_eq]; rfl
  by_cases h2 : k = 2
  · subst h2
    rw [whatB_id (Or.inl rfl)] at HR
    go_enter Tryz.func90, Tryz.ntmps90
    go_wp2_with fail
    refine (K1 _).mono ?_
    rintro e w1 ⟨rfl, hb1⟩
    go_wp2_with fail
    go_ret
    exact ⟨by rw [HR.out]; rfl, hb1⟩
  by_cases h3 : k = 3
  · subst h3
    rw [whatB_id (Or.inr rfl)] at HR
    go_enter Tryz.func90, Tryz.ntmps90
    go_wp2_with fail
    refine (K1 _).mono ?_
    rintro e w1 ⟨rfl, hb1⟩
    go_wp2_with fail
    go_ret
    exact ⟨by rw [HR.out]; rfl, hb1⟩
  by_cases h4 : k = 4
  · subst h4
    rw [whatB_bool, t1, t2] at HR
    obtain ⟨p, HP⟩ : ∃ p, Hid (p = (s.toList == [116, 114, 117, 101])) := ⟨_, Lib.hid rfl⟩
    rw [← HP.out] at HR
    have hp := HP.out.symm
    cases p with
    | true =>
      go_enter Tryz.func90, Tryz.ntmps90
      go_wp2_with fail
      go_ret
      exact ⟨by rw [HR.out]; rfl, Below.refl _ _⟩
    | false =>
      go_enter Tryz.func90, Tryz.ntmps90
      go_wp2_with fail
      go_ret
      exact ⟨by rw [HR.out]; rfl, Below.refl _ _⟩
  rw [whatB_word h2 h3 h4] at HR
  have g2 : (k == 2) = false := by simpa using h2
  have g3 : (k == 3) = false := by simpa using h3
  have g4 : (k == 4) = false := by simpa using h4
  go_enter Tryz.func90, Tryz.ntmps90
  go_wp2_with fail
  refine (K2 _).mono ?_
  rintro e w1 ⟨rfl, rfl⟩
  go_wp2_with fail
  go_ret
  exact ⟨by rw [HR.out]; rfl, Below.refl _ _⟩
set_option maxHeartbeats 2000000 in
theorem validWhat_any (k : Int) (s : ByteArray) (w : World) (hs : s.size ≤ 9223372036854775807) (hk : KwX w) : Calls Tryz.prog 59 #[.int .i64 k, .string s] w fun e w' => e = .returned (.bool (whatB k s)) ∧ w = w' := by
  obtain ⟨r, HR⟩ : ∃ r, Hid (r = whatB k s) := ⟨_, Lib.hid rfl⟩
  rw [← HR.out]
  have t1 : wTrue.toList = [116, 114, 117, 101] := by rw [ByteArray.toList_eq]; rfl
  have t2 : wFalse.toList = [102, 97, 108, 115, 101] := by rw [ByteArray.toList_eq]; rfl
  by_cases hz : s.size < 1
  · have HB : Hid (r = false) := by show _ = _; rw [HR.out]; exact what_word (word_size (by omega))
    have hz' : (s.size : Int) < 1 := by omega
    go_enter Tryz.func59, Tryz.ntmps59
    go_wp2_with fail
    go_ret
    exact ⟨by rw [HB.out]; rfl, rfl⟩
  by_cases hz2 : 32 < s.size
  · have HB : Hid (r = false) := by show _ = _; rw [HR.out]; exact what_word (word_size (by omega))
    have hz' : ¬ (s.size : Int) < 1 := by omega
    have hz3 : 32 < (s.size : Int) := by omega
    go_enter Tryz.func59, Tryz.ntmps59
    go_wp2_with fail
    go_ret
    exact ⟨by rw [HB.out]; rfl, rfl⟩
  have hz' : ¬ (s.size : Int) < 1 := by omega
  have hz3 : ¬ 32 < (s.size : Int) := by omega
  go_enter Tryz.func59, Tryz.ntmps59
  go_wp2_with fail
  go_loop [16] (fun i => ∃ m : Nat, m ≤ s.size ∧ i = .int .i64 m ∧ Hid (∀ j (h : j < s.size), j < m → prtU s[j] = true)) (fun i => s.size - (intOf i).toNat)
  case atStart => exact ⟨0, Nat.zero_le _, rfl, fun i h hi => by omega⟩
  case round =>
    obtain ⟨m, hm, rfl, HN⟩ := hrel
    by_cases hlt : m < s.size
    · by_cases h1 : (s[m].toNat : Int) < 33
      · have HB : Hid (r = false) := by show _ = _; rw [HR.out]; exact what_word (word_no hlt (Or.inl h1))
        go_wp2_with fail
        go_ret
        exact ⟨by rw [HB.out]; rfl, rfl⟩
      by_cases h2 : 126 < (s[m].toNat : Int)
      · have HB : Hid (r = false) := by show _ = _; rw [HR.out]; exact what_word (word_no hlt (Or.inr h2))
        go_wp2_with fail
        go_ret
        exact ⟨by rw [HB.out]; rfl, rfl⟩
      have HE := Lib.hid (word_step hlt h1 h2 HN.out)
      go_wp2_with fail
      go_round
      case rel => exact ⟨m + 1, by omega, by go_num, HE⟩
      case measure => simp [intOf]; omega
    · obtain rfl : m = s.size := by omega
      have HW : Hid (wordB s = true) := Lib.hid (word_yes (by omega) (by omega) HN.out)
      have K1 := ident_any s w hs hk
      by_cases h2 : k = 2
      · subst h2
        rw [whatB_id (Or.inl rfl)] at HR
        go_wp2_with fail
        refine K1.mono ?_
        rintro e w1 ⟨rfl, rfl⟩
        go_wp2_with fail
        go_ret
        exact ⟨by rw [HR.out]; rfl, rfl⟩
      by_cases h3 : k = 3
      · subst h3
        rw [whatB_id (Or.inr rfl)] at HR
        go_wp2_with fail
        refine K1.mono ?_
        rintro e w1 ⟨rfl, rfl⟩
        go_wp2_with fail
        go_ret
        exact ⟨by rw [HR.out]; rfl, rfl⟩
      by_cases h4 : k = 4
      · subst h4
        rw [whatB_bool, t1, t2] at HR
        obtain ⟨p, HP⟩ : ∃ p, Hid (p = (s.toList == [116, 114, 117, 101])) := ⟨_, Lib.hid rfl⟩
        rw [← HP.out] at HR
        have hp := HP.out.symm
        cases p with
        | true =>
          go_wp2_with fail
          go_ret
          exact ⟨by rw [HR.out]; rfl, rfl⟩
        | false =>
          go_wp2_with fail
          go_ret
          exact ⟨by rw [HR.out]; rfl, rfl⟩
      rw [whatB_word h2 h3 h4] at HR
      have g2 : (k == 2) = false := by simpa using h2
      have g3 : (k == 3) = false := by simpa using h3
      have g4 : (k == 4) = false := by simpa using h4
      go_wp2_with fail
      go_ret
      exact ⟨by rw [HR.out, HW.out]; rfl, rfl⟩
end Go.Proofs.YtlcdnkloijehjaaGreatDoor
