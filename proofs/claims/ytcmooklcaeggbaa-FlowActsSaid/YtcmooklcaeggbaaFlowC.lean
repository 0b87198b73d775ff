/-
  Contracts of chapter 29: Check, in the program and in the reference.
-/
import Derived.Test.YtcmooklcaeggbaaFlowB
namespace Go.Proofs.Ytcmooklcaeggbaa
open Go.RowKit
set_option linter.unusedVariables false

set_option maxHeartbeats 400000 in
theorem flowCheck_any (A : Option Addr) (cA : Nat) (f : List (Int × Int)) (n : Int) (w : World) (hf : Sl Lay.int2 w A f) (hnf : f.length ≤ 9223372036854775807) :
    Calls Try.prog 15 #[.slice A f.length cA, .int .i64 n] w fun e w' => e = .returned (.int .i64 (checkE f n)) ∧ Below w.heap.size w w' := by
  by_cases hn : n < 1 ∨ 1024 < n
  · have HC := Lib.hid (checkE_range (f := f) hn)
    by_cases h1 : n < 1
    · clear hn
      go_enter Try.func15, Try.ntmps15
      go_wp2
      go_ret
      exact ⟨by rw [HC.out]; rfl, (by repeat (first | assumption | exact Below.refl _ _ | apply bw_alloc | apply bw_drew | apply bw_drewN | apply bw_later | apply bw_step))⟩
    · have h2 : 1024 < n := by omega
      clear hn
      go_enter Try.func15, Try.ntmps15
      go_wp2
      go_ret
      exact ⟨by rw [HC.out]; rfl, (by repeat (first | assumption | exact Below.refl _ _ | apply bw_alloc | apply bw_drew | apply bw_drewN | apply bw_later | apply bw_step))⟩
  by_cases hl : 8192 < f.length
  · have HC := Lib.hid (checkE_long hn hl)
    have n1 : ¬ n < 1 := by omega
    have n2 : ¬ 1024 < n := by omega
    clear hn
    go_enter Try.func15, Try.ntmps15
    go_wp2
    go_ret
    exact ⟨by rw [HC.out]; rfl, (by repeat (first | assumption | exact Below.refl _ _ | apply bw_alloc | apply bw_drew | apply bw_drewN | apply bw_later | apply bw_step))⟩
  have HN := Lib.hid hn
  have HL := Lib.hid hl
  have n1 : 1 ≤ n := by omega
  have n2 : n ≤ 1024 := by omega
  have hl' : f.length ≤ 8192 := by omega
  clear hn hl
  go_enter Try.func15, Try.ntmps15
  go_wp2
  go_loopw [18] (fun i wr => ∃ k : Nat, k ≤ f.length ∧ i = .int .i64 k ∧ Hid (∀ i, i < k → badAt f n i = none) ∧ Below w.heap.size w wr) (fun i _ => f.length - (intOf i).toNat)
  case atStart => exact ⟨0, Nat.zero_le _, rfl, fun i hi => by omega, Below.refl _ _⟩
  case round =>
    obtain ⟨k, hk, rfl, HG, hbw⟩ := hrel
    by_cases hlt : k < f.length
    · obtain ⟨b, o, rfl, hb, c0, c1⟩ := (hf.mono hbw).int2_at hlt
      cases hfit : fitsB f[k] n with
      | false =>
        have HE := Lib.hid (badAt_range hlt hfit)
        have hfit' : ¬ (0 ≤ f[k].1 ∧ f[k].1 < n ∧ 0 ≤ f[k].2 ∧ f[k].2 < n) := by
          intro h; rw [fitsB] at hfit; simp [h] at hfit
        clear hfit
        go_wp2
        all_goals (go_ret; exact ⟨by rw [checkE_bad HN.out HL.out HG.out HE.out hlt]; rfl, (by repeat (first | assumption | exact Below.refl _ _ | apply bw_alloc | apply bw_drew | apply bw_drewN | apply bw_later | apply bw_step))⟩)
      | true =>
        have HF := Lib.hid hfit
        have hfit' : 0 ≤ f[k].1 ∧ f[k].1 < n ∧ 0 ≤ f[k].2 ∧ f[k].2 < n := by
          rw [fitsB] at hfit; simp at hfit; omega
        obtain ⟨f1, f2, f3, f4⟩ := hfit'
        clear hfit
        by_cases h0 : k ≤ 0
        · have hz : decide (0 < k) = false := by simpa using h0
          go_wp2
          refine wp_region_later (by kernel_rfl) (by kernel_rfl) ?_
          repeat (go_big_quiet_step (fail))
          refine wpQuiet_nil ?_
          rintro _ ⟨x, rfl⟩
          go_wp2
          go_roundw
          case rel => exact ⟨k + 1, by omega, by go_num, lt_succ_none HG.out (badAt_none hlt HF.out (fun h => by omega)), (by repeat (first | assumption | exact Below.refl _ _ | apply bw_alloc | apply bw_drew | apply bw_drewN | apply bw_later | apply bw_step))⟩
          case measure => simp [intOf]; omega
        · have h0' : 0 < k := by omega
          obtain ⟨b2, o2, e2, hb2, d0, d1⟩ := (hf.mono hbw).int2_at (i := k - 1) (by omega)
          simp only [Option.some.injEq, Addr.mk.injEq] at e2
          obtain ⟨rfl, rfl, _⟩ := e2
          have hz : decide (0 < k) = true := by simpa using h0'
          have hcp := cmpP_neg (f[k - 1]) f[k]
          cases hlp : ltP (f[k - 1]) f[k] with
          | false =>
            have HE := Lib.hid (badAt_order hlt h0' HF.out hlp)
            have hcc : decide (0 ≤ cmpP (f[k - 1]) f[k]) = true := by rw [hlp] at hcp; exact hcp
            clear hcp hlp
            go_wp2
            refine wp_region_later (by kernel_rfl) (by kernel_rfl) ?_
            repeat (go_big_quiet_step ((go_at_call 31; exact Calls.later (flowCompare_any _ _ _ _ _))))
            refine wpQuiet_nil ?_
            rintro _ ⟨x, rfl⟩
            go_wp2
            go_ret
            exact ⟨by rw [checkE_bad HN.out HL.out HG.out HE.out hlt]; rfl, (by repeat (first | assumption | exact Below.refl _ _ | apply bw_alloc | apply bw_drew | apply bw_drewN | apply bw_later | apply bw_step))⟩
          | true =>
            have HE := Lib.hid (badAt_none hlt HF.out (fun _ => hlp))
            have hcc : decide (0 ≤ cmpP (f[k - 1]) f[k]) = false := by rw [hlp] at hcp; exact hcp
            clear hcp hlp
            go_wp2
            refine wp_region_later (by kernel_rfl) (by kernel_rfl) ?_
            repeat (go_big_quiet_step ((go_at_call 31; exact Calls.later (flowCompare_any _ _ _ _ _))))
            refine wpQuiet_nil ?_
            rintro _ ⟨x, rfl⟩
            go_wp2
            go_roundw
            case rel => exact ⟨k + 1, by omega, by go_num, lt_succ_none HG.out HE.out, (by repeat (first | assumption | exact Below.refl _ _ | apply bw_alloc | apply bw_drew | apply bw_drewN | apply bw_later | apply bw_step))⟩
            case measure => simp [intOf]; omega
    · have HE := Lib.hid (checkE_end HN.out HL.out (fun i hi => HG.out i (by omega)))
      have hpn := pair_neq
      have hpg := pairGuard
      by_cases hz : f.length = 0
      · have hz' : ((f.length : Int) == 0) = true := by simp [hz]
        have HZ := Lib.hid hz
        clear hz
        go_wp2
        go_ret
        exact ⟨by rw [HE.out, List.eq_nil_of_length_eq_zero HZ.out]; rfl, (by repeat (first | assumption | exact Below.refl _ _ | apply bw_alloc | apply bw_drew | apply bw_drewN | apply bw_later | apply bw_step))⟩
      · have hz' : ((f.length : Int) == 0) = false := by simp [hz]
        have hp : 0 < f.length := by omega
        clear hz
        obtain ⟨b, o, rfl, hb, c0, c1⟩ := (hf.mono hbw).int2_at hp
        simp only [Nat.zero_mul, Nat.add_zero] at c0 c1
        have hh : f.head? = some f[0] := by rw [List.head?_eq_getElem?, List.getElem?_eq_getElem hp]
        rw [hh] at HE
        clear hh
        by_cases he : f[0] = (0, 0)
        · have e1 : (!(f[0].1 == 0 && f[0].2 == 0)) = false := by simp [he]
          have HF := Lib.hid he
          clear he
          go_wp2
          go_ret
          exact ⟨by rw [HE.out, HF.out]; rfl, (by repeat (first | assumption | exact Below.refl _ _ | apply bw_alloc | apply bw_drew | apply bw_drewN | apply bw_later | apply bw_step))⟩
        · have e1 : (!(f[0].1 == 0 && f[0].2 == 0)) = true := by
            simp only [Bool.not_eq_true', Bool.and_eq_false_iff, beq_eq_false_iff_ne]
            by_cases h1 : f[0].1 = 0
            · exact Or.inr fun h2 => he (Prod.ext h1 h2)
            · exact Or.inl h1
          have HF := Lib.hid he
          clear he
          go_wp2
          go_ret
          exact ⟨by rw [HE.out, if_neg (fun h => HF.out (Option.some.inj h))]; rfl, (by repeat (first | assumption | exact Below.refl _ _ | apply bw_alloc | apply bw_drew | apply bw_drewN | apply bw_later | apply bw_step))⟩

end Go.Proofs.Ytcmooklcaeggbaa
