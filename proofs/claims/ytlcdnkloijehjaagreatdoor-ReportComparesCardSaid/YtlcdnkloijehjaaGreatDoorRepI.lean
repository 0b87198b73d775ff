/-
  Chapter 47: the reference's findings: the first error of a list.
-/
import Derived.Test.YtlcdnkloijehjaaGreatDoorRepH
namespace Go.Proofs.YtlcdnkloijehjaaGreatDoor
open Go.RowKit
set_option linter.unusedVariables false

set_option maxHeartbeats 2000000 in
theorem refFnds_any (l : List Fnd) (A : Option Addr) (c : Nat) (w : World) (hl : l.length ≤ 9223372036854775807) (hok : Hid (∀ x ∈ l, OkFnd x)) (hs : Sl Lay.fnd w A l) :
    Calls Tryz.prog 26 #[.slice A l.length c] w fun e w' => e = .returned (.int .i64 (fndsE l)) ∧ Below w.heap.size w w' := by
  obtain ⟨r, HR⟩ : ∃ r, Hid (r = fndsE l) := ⟨_, Lib.hid rfl⟩
  rw [← HR.out]
  go_enter Tryz.func26, Tryz.ntmps26
  go_wp2_with fail
  go_loopw [3] (fun i wr => ∃ k : Nat, k ≤ l.length ∧ i = .int .i64 k ∧ Hid (r = fndsE (l.drop k)) ∧ Below w.heap.size w wr) (fun i _ => l.length - (intOf i).toNat)
  case atStart => exact ⟨0, Nat.zero_le _, rfl, HR, Below.refl _ _⟩
  case round =>
    clear HR
    obtain ⟨k, hk, rfl, HR, hbw⟩ := hrel
    by_cases hlt : k < l.length
    · obtain ⟨b, o, A3, c3, rfl, h1, d0, d1, d2, d3, d4, d5, hc3, hs3⟩ := (hs.mono hbw).fnd_at hlt
      have HC : Hid (∀ W, Below wr.heap.size wr W → Calls Tryz.prog 64 #[.agg #[.int .i64 l[k].kind, .string l[k].plc.cls, .string l[k].plc.mth, .int .i64 l[k].plc.ins, .string l[k].what, .slice A3 l[k].path.length c3]] W fun e w' => e = .returned (.int .i64 (fndE l[k])) ∧ Below W.heap.size W w') := fun W h => refFnd_any l[k] A3 c3 W (Lib.hid (hok.out _ (List.getElem_mem hlt))) (hs3.mono h)
      have HS := Lib.hid (fndsE_step hlt)
      obtain ⟨g, HG⟩ : ∃ g, Hid (g = fndE l[k]) := ⟨_, Lib.hid rfl⟩
      rw [← HG.out] at HS HC
      rw [HS.out] at HR
      clear HS HG
      go_wp2_with fail
      refine (HC.out _ (Below.refl _ _)).mono ?_
      rintro e w2 ⟨rfl, hb2⟩
      have hbw2 := below_step hbw hb2
      by_cases hg : g = 0
      · rw [thenI_z hg] at HR
        have tg : (g != 0) = false := by simp [hg]
        clear hg
        go_wp2_with fail
        go_roundw
        case rel => exact ⟨k + 1, by omega, by go_num, HR, hbw2⟩
        case measure => simp [intOf]; omega
      · rw [thenI_n hg] at HR
        have tg : (g != 0) = true := by simp [hg]
        clear hg
        go_wp2_with fail
        go_ret
        exact ⟨by rw [HR.out]; rfl, hbw2⟩
    · rw [fndsE_end hlt] at HR
      go_wp2_with fail
      go_ret
      exact ⟨by rw [HR.out]; rfl, hbw⟩
theorem risesB_step {l : List Fnd} {k : Nat} (h : k + 1 < l.length) : risesB (l.drop k) = (decide (cmpF (l[k]'(by omega)) l[k + 1] < 0) && risesB (l.drop (k + 1))) := by
  rw [List.drop_eq_getElem_cons (show k < l.length by omega), List.drop_eq_getElem_cons h]
  rfl
theorem risesB_end {l : List Fnd} {k : Nat} (h : l.length ≤ k + 1) : risesB (l.drop k) = true := by
  rcases Nat.lt_or_ge k l.length with h1 | h1
  · rw [List.drop_eq_getElem_cons h1, List.drop_eq_nil_of_le h]; rfl
  · rw [List.drop_eq_nil_of_le h1]; rfl
set_option maxHeartbeats 4000000 in
set_option maxRecDepth 100000 in
theorem refRises_any (l : List Fnd) (A : Option Addr) (c : Nat) (w : World) (hl : l.length ≤ 9223372036854775806) (hok : Hid (∀ x ∈ l, OkFnd x)) (hs : Sl Lay.fnd w A l) :
    Calls Tryz.prog 27 #[.slice A l.length c] w fun e w' => e = .returned (.bool (risesB l)) ∧ Below w.heap.size w w' := by
  obtain ⟨r, HR⟩ : ∃ r, Hid (r = risesB l) := ⟨_, Lib.hid rfl⟩
  rw [← HR.out]
  go_enter Tryz.func27, Tryz.ntmps27
  go_wp2_with fail
  go_loopw [3] (fun i wr => ∃ k : Nat, k ≤ l.length ∧ i = .int .i64 ((k : Int) + 1) ∧ Hid (r = risesB (l.drop k)) ∧ Below w.heap.size w wr) (fun i _ => l.length + 1 - (intOf i).toNat)
  case atStart => exact ⟨0, Nat.zero_le _, rfl, HR, Below.refl _ _⟩
  case round =>
    clear HR
    obtain ⟨k, hk, rfl, HR, hbw⟩ := hrel
    by_cases hlt : k + 1 < l.length
    · have hlt0 : k < l.length := by omega
      obtain ⟨b, o, A3, c3, rfl, h1, d0, d1, d2, d3, d4, d5, hc3, hs3⟩ := (hs.mono hbw).fnd_at hlt0
      obtain ⟨b', o', B3, e3, e0, h2, f0, f1, f2, f3, f4, f5, hc4, hs4⟩ := (hs.mono hbw).fnd_at hlt
      obtain ⟨rfl, rfl⟩ : b = b' ∧ o = o' := by simpa using e0
      have HC : Hid (∀ W, Below wr.heap.size wr W → Calls Tryz.prog 28 #[.agg #[.int .i64 l[k].kind, .string l[k].plc.cls, .string l[k].plc.mth, .int .i64 l[k].plc.ins, .string l[k].what, .slice A3 l[k].path.length c3], .agg #[.int .i64 l[k + 1].kind, .string l[k + 1].plc.cls, .string l[k + 1].plc.mth, .int .i64 l[k + 1].plc.ins, .string l[k + 1].what, .slice B3 l[k + 1].path.length e3]] W fun e w' => e = .returned (.int .i64 (cmpF l[k] l[k + 1])) ∧ Below W.heap.size W w') := fun W h => cmpF_ref l[k] l[k + 1] A3 B3 c3 e3 W (hok.out _ (List.getElem_mem hlt0)).2.2.1 (hok.out _ (List.getElem_mem hlt)).2.2.1 (hs3.mono h) (hs4.mono h)
      have HS := Lib.hid (risesB_step hlt)
      obtain ⟨g, HG⟩ : ∃ g, Hid (g = cmpF l[k] l[k + 1]) := ⟨_, Lib.hid rfl⟩
      rw [← HG.out] at HS HC
      rw [HS.out] at HR
      clear HS HG e0
      have i1 : ((k : Int) + 1 - 1) = (k : Int) := by omega
      have g1 : ((k : Int) + 1 < (l.length : Int)) := by omega
      by_cases hg : g < 0
      · have HR2 : Hid (r = risesB (l.drop (k + 1))) := by show _ = _; rw [HR.out, decide_eq_true hg]; rfl
        have tg : ¬ 0 ≤ g := by omega
        clear HR
        go_wp2_with fail
        refine wp_region_later (by kernel_rfl) (by kernel_rfl) ?_
        repeat (go_big_quiet_step ((go_at_call 28; exact Calls.later (HC.out _ (by exact (by repeat (first | assumption | exact Below.refl _ _ | apply bw_alloc | apply bw_drew | apply bw_drewN | apply bw_later | apply bw_step)))))))
        refine wpQuiet_nil ?_
        rintro _ ⟨z, rfl⟩
        have hbw2 := below_step hbw z.h
        go_wp2_with fail
        go_roundw
        case rel => exact ⟨k + 1, by omega, by go_num, HR2, hbw2⟩
        case measure => simp [intOf]; omega
      · have HR2 : Hid (r = false) := by show _ = _; rw [HR.out, decide_eq_false hg]; rfl
        have tg : 0 ≤ g := by omega
        clear HR
        go_wp2_with fail
        refine wp_region_later (by kernel_rfl) (by kernel_rfl) ?_
        repeat (go_big_quiet_step ((go_at_call 28; exact Calls.later (HC.out _ (by exact (by repeat (first | assumption | exact Below.refl _ _ | apply bw_alloc | apply bw_drew | apply bw_drewN | apply bw_later | apply bw_step)))))))
        refine wpQuiet_nil ?_
        rintro _ ⟨z, rfl⟩
        have hbw2 := below_step hbw z.h
        go_wp2_with fail
        go_ret
        exact ⟨by rw [HR2.out]; rfl, hbw2⟩
    · rw [risesB_end (by omega)] at HR
      have g1 : ¬ ((k : Int) + 1 < (l.length : Int)) := by omega
      go_wp2_with fail
      go_ret
      exact ⟨by rw [HR.out]; rfl, hbw⟩
end Go.Proofs.YtlcdnkloijehjaaGreatDoor
