/-
  Contracts of chapter 29: Check of the reference.
-/
import Derived.Test.YtcmooklcaeggbaaFlowB
namespace Go.Proofs.Ytcmooklcaeggbaa
open Go.RowKit
set_option linter.unusedVariables false

def zeroTo (f : List (Int × Int)) (k : Nat) : Bool := (f.take k).any fun p => p.1 == 0 && p.2 == 0
theorem zeroTo_succ {f : List (Int × Int)} {k : Nat} (h : k < f.length) : zeroTo f (k + 1) = (zeroTo f k || (f[k].1 == 0 && f[k].2 == 0)) := by
  unfold zeroTo
  rw [List.take_succ_eq_append_getElem h, List.any_append]
  simp only [List.any_cons, List.any_nil, Bool.or_false]
theorem fitsB_spec {p : Int × Int} {n : Int} (h : fitsB p n = true) : 0 ≤ p.1 ∧ p.1 < n ∧ 0 ≤ p.2 ∧ p.2 < n := by
  rw [fitsB] at h; simp at h; omega
/-- In a list without a fault the pair of zeros can stand first alone. -/
theorem zero_head {f : List (Int × Int)} {n : Int} (h : ∀ i, i < f.length → badAt f n i = none) : zeroTo f f.length = decide (f.head? = some (0, 0)) := by
  unfold zeroTo
  rw [List.take_length]
  cases f with
  | nil => rfl
  | cons p r =>
    rw [Bool.eq_iff_iff, decide_eq_true_iff, List.any_eq_true]
    simp only [List.head?_cons, Option.some.injEq]
    constructor
    · rintro ⟨q, hq, he⟩
      simp only [Bool.and_eq_true, beq_iff_eq] at he
      obtain ⟨i, hi, e⟩ := List.getElem_of_mem hq
      by_cases h0 : 0 < i
      · obtain ⟨-, h2⟩ := badAt_inv hi (h i hi)
        have h3 := h2 h0
        obtain ⟨h4, -⟩ := badAt_inv (i := i - 1) (by omega) (h (i - 1) (by omega))
        have h5 := fitsB_spec h4
        rw [e] at h3
        simp [ltP] at h3
        omega
      · have : i = 0 := by omega
        subst this
        simp at e
        subst e
        exact Prod.ext he.1 he.2
    · rintro rfl
      exact ⟨(0, 0), by simp, by simp⟩

set_option maxHeartbeats 400000 in
theorem refCheck_any (A : Option Addr) (cA : Nat) (f : List (Int × Int)) (n : Int) (w : World) (hf : Sl Lay.int2 w A f) (hnf : f.length ≤ 9223372036854775807) :
    Calls Try.prog 16 #[.slice A f.length cA, .int .i64 n] w fun e w' => e = .returned (.int .i64 (checkE f n)) ∧ Below w.heap.size w w' := by
  by_cases hn : n < 1 ∨ 1024 < n
  · have HC := Lib.hid (checkE_range (f := f) hn)
    by_cases h1 : n < 1
    · clear hn
      go_enter Try.func16, Try.ntmps16
      go_wp2
      go_ret
      exact ⟨by rw [HC.out]; rfl, (by repeat (first | assumption | exact Below.refl _ _ | apply bw_alloc | apply bw_drew | apply bw_drewN | apply bw_later | apply bw_step))⟩
    · have h2 : 1024 < n := by omega
      clear hn
      go_enter Try.func16, Try.ntmps16
      go_wp2
      go_ret
      exact ⟨by rw [HC.out]; rfl, (by repeat (first | assumption | exact Below.refl _ _ | apply bw_alloc | apply bw_drew | apply bw_drewN | apply bw_later | apply bw_step))⟩
  by_cases hl : 8192 < f.length
  · have HC := Lib.hid (checkE_long hn hl)
    have n1 : ¬ n < 1 := by omega
    have n2 : ¬ 1024 < n := by omega
    clear hn
    go_enter Try.func16, Try.ntmps16
    go_wp2
    go_ret
    exact ⟨by rw [HC.out]; rfl, (by repeat (first | assumption | exact Below.refl _ _ | apply bw_alloc | apply bw_drew | apply bw_drewN | apply bw_later | apply bw_step))⟩
  have HN := Lib.hid hn
  have HL := Lib.hid hl
  have n1 : 1 ≤ n := by omega
  have n2 : n ≤ 1024 := by omega
  have hl' : f.length ≤ 8192 := by omega
  clear hn hl
  go_enter Try.func16, Try.ntmps16
  go_wp2
  go_loopw [5, 6] (fun z i wr => ∃ k : Nat, k ≤ f.length ∧ i = .int .i64 k ∧ z = .bool (zeroTo f k) ∧ Hid (∀ i, i < k → badAt f n i = none) ∧ Below w.heap.size w wr) (fun _ i _ => f.length - (intOf i).toNat)
  case atStart => exact ⟨0, Nat.zero_le _, rfl, rfl, fun i hi => by omega, Below.refl _ _⟩
  case round =>
    obtain ⟨k, hk, rfl, rfl, HG, hbw⟩ := hrel
    by_cases hlt : k < f.length
    · obtain ⟨b, o, rfl, hb, c0, c1⟩ := (hf.mono hbw).int2_at hlt
      cases hfit : fitsB f[k] n with
      | false =>
        have HE := Lib.hid (badAt_range hlt hfit)
        have HF := Lib.hid hfit
        clear hfit
        go_wp2_with fail
        refine (refFits_any f[k].1 f[k].2 n _).mono ?_
        rintro e w1 ⟨rfl, hb1⟩
        rw [HF.out]
        go_wp2_with fail
        go_ret
        exact ⟨by rw [checkE_bad HN.out HL.out HG.out HE.out hlt]; rfl, (by repeat (first | assumption | exact Below.refl _ _ | apply bw_alloc | apply bw_drew | apply bw_drewN | apply bw_later | apply bw_step))⟩
      | true =>
        have HF := Lib.hid hfit
        clear hfit
        go_wp2_with fail
        refine (refFits_any f[k].1 f[k].2 n _).mono ?_
        rintro e w1 ⟨rfl, hb1⟩
        rw [HF.out]
        have hbw1 := below_step hbw hb1
        obtain ⟨b', o', e2, hb', c0', c1'⟩ := (hf.mono hbw1).int2_at hlt
        simp only [Option.some.injEq, Addr.mk.injEq] at e2
        obtain ⟨rfl, rfl, _⟩ := e2
        clear c0 c1 hb
        by_cases h0 : k ≤ 0
        · have hz : decide (0 < k) = false := by simpa using h0
          go_wp2_with fail
          refine wp_region_later (by kernel_rfl) (by kernel_rfl) ?_
          repeat (go_big_quiet_step (fail))
          refine wpQuiet_nil ?_
          rintro _ ⟨x, rfl⟩
          go_wp2_with fail
          all_goals go_roundw
          all_goals (try (case measure => simp [intOf]; omega))
          all_goals exact ⟨k + 1, by omega, by go_num, by rw [zeroTo_succ hlt]; simp [*], lt_succ_none HG.out (badAt_none hlt HF.out (fun h => by omega)), (by repeat (first | assumption | exact Below.refl _ _ | apply bw_alloc | apply bw_drew | apply bw_drewN | apply bw_later | apply bw_step))⟩
        · have h0' : 0 < k := by omega
          have hz : decide (0 < k) = true := by simpa using h0'
          obtain ⟨b2, o2, e2, hb2, d0, d1⟩ := (hf.mono hbw1).int2_at (i := k - 1) (by omega)
          simp only [Option.some.injEq, Addr.mk.injEq] at e2
          obtain ⟨rfl, rfl, _⟩ := e2
          cases hlp : ltP (f[k - 1]) f[k] with
          | false =>
            have HE := Lib.hid (badAt_order hlt h0' HF.out hlp)
            have HP := Lib.hid hlp
            have hcc : (!ltP ((f[k - 1]).1, (f[k - 1]).2) (f[k].1, f[k].2)) = true := by rw [Bool.not_eq_true']; exact hlp
            clear hlp
            go_wp2_with fail
            refine wp_region_later (by kernel_rfl) (by kernel_rfl) ?_
            repeat (go_big_quiet_step ((go_at_call 33; exact Calls.later (refBefore_any _ _ _ _ _))))
            refine wpQuiet_nil ?_
            rintro _ ⟨x, rfl⟩
            go_wp2_with fail
            go_ret
            exact ⟨by rw [checkE_bad HN.out HL.out HG.out HE.out hlt]; rfl, (by repeat (first | assumption | exact Below.refl _ _ | apply bw_alloc | apply bw_drew | apply bw_drewN | apply bw_later | apply bw_step))⟩
          | true =>
            have HE := Lib.hid (badAt_none hlt HF.out (fun _ => hlp))
            have hcc : (!ltP ((f[k - 1]).1, (f[k - 1]).2) (f[k].1, f[k].2)) = false := by rw [Bool.not_eq_false']; exact hlp
            clear hlp
            go_wp2_with fail
            refine wp_region_later (by kernel_rfl) (by kernel_rfl) ?_
            repeat (go_big_quiet_step ((go_at_call 33; exact Calls.later (refBefore_any _ _ _ _ _))))
            refine wpQuiet_nil ?_
            rintro _ ⟨x, rfl⟩
            go_wp2_with fail
            all_goals go_roundw
            all_goals (try (case measure => simp [intOf]; omega))
            all_goals exact ⟨k + 1, by omega, by go_num, by rw [zeroTo_succ hlt]; simp [*], lt_succ_none HG.out HE.out, (by repeat (first | assumption | exact Below.refl _ _ | apply bw_alloc | apply bw_drew | apply bw_drewN | apply bw_later | apply bw_step))⟩
    · have HE := Lib.hid (checkE_end HN.out HL.out (fun i hi => HG.out i (by omega)))
      have HZ := Lib.hid (zero_head (fun i hi => HG.out i (Nat.lt_of_lt_of_le hi (by omega))))
      have hkl : k = f.length := by omega
      subst hkl
      go_wp2_with fail
      all_goals go_ret
      · rename_i hz
        rw [HZ.out] at hz
        exact ⟨by rw [HE.out, if_neg (by simpa using hz)]; rfl, (by repeat (first | assumption | exact Below.refl _ _ | apply bw_alloc | apply bw_drew | apply bw_drewN | apply bw_later | apply bw_step))⟩
      · rename_i hz
        rw [HZ.out] at hz
        exact ⟨by rw [HE.out, if_pos (by simpa using hz)]; rfl, (by repeat (first | assumption | exact Below.refl _ _ | apply bw_alloc | apply bw_drew | apply bw_drewN | apply bw_later | apply bw_step))⟩
end Go.Proofs.Ytcmooklcaeggbaa
