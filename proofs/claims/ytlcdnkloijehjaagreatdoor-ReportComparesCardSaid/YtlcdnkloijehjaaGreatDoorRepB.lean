/-
  Chapter 45: the order of paths and of findings, in the program and in the reference.
-/
import Derived.Test.YtlcdnkloijehjaaGreatDoorRepA
namespace Go.Proofs.YtlcdnkloijehjaaGreatDoor
open Go.RowKit
set_option linter.unusedVariables false

set_option maxHeartbeats 2000000 in
set_option maxRecDepth 100000 in
theorem cmpPs_prog (l m : List Plc) (A B : Option Addr) (c d : Nat) (w : World) (hl : l.length ≤ 9223372036854775807) (hm : m.length ≤ 9223372036854775807) (ha : Sl Lay.plc w A l) (hb : Sl Lay.plc w B m) :
    Calls Tryz.prog 63 #[.slice A l.length c, .slice B m.length d, .func (.func 60) #[] #[]] w fun e w' => e = .returned (.int .i64 (cmpPs l m)) ∧ Below w.heap.size w w' := by
  obtain ⟨r, HR⟩ : ∃ r, Hid (r = cmpPs l m) := ⟨_, Lib.hid rfl⟩
  rw [← HR.out]
  go_enter Tryz.func63, Tryz.ntmps63
  go_wp2_with fail
  go_loopw [13] (fun i wr => ∃ k : Nat, k ≤ l.length ∧ k ≤ m.length ∧ i = .int .i64 k ∧ Hid (r = cmpPs (l.drop k) (m.drop k)) ∧ Below w.heap.size w wr) (fun i _ => l.length - (intOf i).toNat)
  case atStart => exact ⟨0, Nat.zero_le _, Nat.zero_le _, rfl, HR, Below.refl _ _⟩
  case round =>
    clear HR
    obtain ⟨k, hk, hk2, rfl, HR, hbw⟩ := hrel
    by_cases hlt : k < l.length
    · by_cases hlt2 : k < m.length
      · obtain ⟨b, o, rfl, h1, d0, d1, d2⟩ := (ha.mono hbw).plc_at hlt
        obtain ⟨b', o', rfl, h2, e0, e1, e2⟩ := (hb.mono hbw).plc_at hlt2
        have HS := Lib.hid (cmpPs_step hlt hlt2)
        obtain ⟨q, HQ⟩ : ∃ q, Hid (q = cmpP l[k] m[k]) := ⟨_, Lib.hid rfl⟩
        have HC := fun W => cmpP_prog l[k] m[k] W
        rw [← HQ.out] at HS HC
        have HR2 : Hid (r = thenI q (cmpPs (l.drop (k + 1)) (m.drop (k + 1)))) := Lib.hid (HR.out.trans HS.out)
        clear HR HS HQ
        have g1 : ¬ ((m.length : Int) ≤ (k : Int)) := by omega
        go_wp2_with fail
        refine (HC _).mono ?_
        rintro e w2 ⟨rfl, hb2⟩
        have hbw2 := below_step (bw_alloc (bw_alloc hbw)) hb2
        by_cases hq : q = 0
        · rw [thenI_z hq] at HR2
          have t1 : (q != 0) = false := by simp [hq]
          clear hq
          go_wp2_with fail
          go_roundw
          case rel => exact ⟨k + 1, by omega, by omega, by go_num, HR2, hbw2⟩
          case measure => simp [intOf]; omega
        · rw [thenI_n hq] at HR2
          have t1 : (q != 0) = true := by simp [hq]
          clear hq
          go_wp2_with fail
          go_ret
          exact ⟨by rw [HR2.out]; rfl, hbw2⟩
      · have hke : k = m.length := by omega
        have g1 : ((m.length : Int) ≤ (k : Int)) := by omega
        have HB : Hid (r = 1) := by
          show _ = _
          rw [HR.out, cmpPs_end (by omega)]
          unfold cmpI Lib.compareInt
          simp only [List.length_drop]
          rw [if_neg (by omega), if_pos (by omega)]
        obtain ⟨b, o, rfl, h1, d0, d1, d2⟩ := (ha.mono hbw).plc_at hlt
        clear hke
        go_wp2_with fail
        go_ret
        exact ⟨by rw [HB.out]; rfl, bw_alloc hbw⟩
    · by_cases hlt2 : l.length < m.length
      · have HB : Hid (r = -1) := by
          show _ = _
          rw [HR.out, cmpPs_end (by omega)]
          unfold cmpI Lib.compareInt
          simp only [List.length_drop]
          rw [if_pos (by omega)]
        go_wp2_with fail
        go_ret
        exact ⟨by rw [HB.out]; rfl, hbw⟩
      · have HB : Hid (r = 0) := by
          show _ = _
          rw [HR.out, cmpPs_end (by omega)]
          unfold cmpI Lib.compareInt
          simp only [List.length_drop]
          rw [if_neg (by omega), if_neg (by omega)]
        go_wp2_with fail
        go_ret
        exact ⟨by rw [HB.out]; rfl, hbw⟩
end Go.Proofs.YtlcdnkloijehjaaGreatDoor
