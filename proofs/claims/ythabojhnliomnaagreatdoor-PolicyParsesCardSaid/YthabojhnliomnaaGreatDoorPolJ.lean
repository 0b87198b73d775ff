/-
  Chapter 39: the order of moves.
-/
import Derived.Test.YthabojhnliomnaaGreatDoorPolI
namespace Go.Proofs.YthabojhnliomnaaGreatDoor
open Go.RowKit
set_option linter.unusedVariables false

def cmpI (a b : Int) : Int := if a < b then -1 else if b < a then 1 else 0
theorem cmpI_lt {a b : Int} (h : a < b) : cmpI a b = -1 := by simp [cmpI, h]
theorem cmpI_eq (a : Int) : cmpI a a = 0 := by simp [cmpI]
theorem cmpI_gt {a b : Int} (h : b < a) : cmpI a b = 1 := by unfold cmpI; rw [if_neg (by omega), if_pos h]
def orI (a b : Int) : Int := if a = 0 then b else a
set_option maxHeartbeats 400000 in
theorem cmpCompare_any (a b : Int) (w : World) :
    Calls Tryz.prog 127 #[.int .i64 a, .int .i64 b] w fun e w' => e = .returned (.int .i64 (cmpI a b)) ∧ w = w' := by
  rcases Int.lt_trichotomy a b with h | h | h
  · go_enter Tryz.func127, Tryz.ntmps127
    go_wp2
    go_ret
    exact ⟨by rw [cmpI_lt h]; rfl, rfl⟩
  · subst h
    go_enter Tryz.func127, Tryz.ntmps127
    go_wp2
    go_ret
    exact ⟨by rw [cmpI_eq]; rfl, rfl⟩
  · go_enter Tryz.func127, Tryz.ntmps127
    go_wp2
    go_ret
    exact ⟨by rw [cmpI_gt h]; rfl, rfl⟩

set_option maxHeartbeats 400000 in
theorem cmpOr_any (a b : Int) (g : Nat) (w : World) (h0 : w.cell? ⟨g, 0, none⟩ = some (.int .i64 a)) (h1 : w.cell? ⟨g, 1, none⟩ = some (.int .i64 b)) :
    Calls Tryz.prog 126 #[.slice (some ⟨g, 0, none⟩) 2 2] w fun e w' => e = .returned (.int .i64 (orI a b)) ∧ w = w' := by
  by_cases ha : a = 0
  · subst ha
    by_cases hb : b = 0
    · subst hb
      go_enter Tryz.func126, Tryz.ntmps126
      go_wp2
      refine wp_loop_rounds 3 ?_
      repeat (rw [rounds_succ]; go_wp2)
      go_ret
      exact ⟨by simp [orI], rfl⟩
    · have hb' : (b != 0) = true := by simpa using hb
      go_enter Tryz.func126, Tryz.ntmps126
      go_wp2
      refine wp_loop_rounds 2 ?_
      repeat (rw [rounds_succ]; go_wp2)
      go_ret
      exact ⟨by simp [orI], rfl⟩
  · have ha' : (a != 0) = true := by simpa using ha
    have e : orI a b = a := if_neg ha
    have E := Lib.hid e
    clear e
    go_enter Tryz.func126, Tryz.ntmps126
    go_wp2
    refine wp_loop_rounds 1 ?_
    repeat (rw [rounds_succ]; go_wp2)
    go_ret
    exact ⟨by rw [E.out]; rfl, rfl⟩


def cmpS (a b : ByteArray) : Int := if toL a < toL b then -1 else if toL b < toL a then 1 else 0
theorem isNaNS_any (a : ByteArray) (w : World) : Calls Tryz.prog 171 #[.string a] w fun e w' => e = .returned (.bool false) ∧ w = w' := by
  have t1 : (a.toList == a.toList) = true := by simp
  go_enter Tryz.func171, Tryz.ntmps171
  go_wp2_with fail
  go_ret
  exact ⟨rfl, rfl⟩
theorem cmpCompareS_any (a b : ByteArray) (w : World) :
    Calls Tryz.prog 128 #[.string a, .string b] w fun e w' => e = .returned (.int .i64 (cmpS a b)) ∧ w = w' := by
  obtain ⟨r, HR⟩ : ∃ r, Hid (r = cmpS a b) := ⟨_, Lib.hid rfl⟩
  rw [← HR.out]
  go_enter Tryz.func128, Tryz.ntmps128
  go_wp2_with fail
  refine (isNaNS_any a _).mono ?_
  rintro e w1 ⟨rfl, rfl⟩
  go_wp2_with fail
  refine (isNaNS_any b _).mono ?_
  rintro e w1 ⟨rfl, rfl⟩
  by_cases h1 : toL a < toL b
  · have t1 : Op.bytesLess a.toList b.toList = true := by rw [bytesLess_eq]; exact decide_eq_true (ltS_lt.1 h1)
    have HB : Hid (r = -1) := by show _ = _; rw [HR.out, cmpS, if_pos h1]
    clear h1
    go_wp2_with fail
    go_ret
    exact ⟨by rw [HB.out]; rfl, rfl⟩
  · have t1 : Op.bytesLess a.toList b.toList = false := by rw [bytesLess_eq]; exact decide_eq_false (fun h => h1 (ltS_lt.2 h))
    by_cases h2 : toL b < toL a
    · have t2 : Op.bytesLess b.toList a.toList = true := by rw [bytesLess_eq]; exact decide_eq_true (ltS_lt.1 h2)
      have t3 : (a.toList == b.toList) = false := by
        rw [beq_eq_false_iff_ne]
        intro h
        rw [ByteArray.toList_eq, ByteArray.toList_eq] at h
        have e : toL a = toL b := h
        rw [e] at h2
        exact ltL_irrefl _ h2
      have HB : Hid (r = 1) := by show _ = _; rw [HR.out, cmpS, if_neg h1, if_pos h2]
      clear h1 h2
      go_wp2_with fail
      go_ret
      exact ⟨by rw [HB.out]; rfl, rfl⟩
    · have t2 : Op.bytesLess b.toList a.toList = false := by rw [bytesLess_eq]; exact decide_eq_false (fun h => h2 (ltS_lt.2 h))
      have t3 : (a.toList == b.toList) = true := by
        have e : toL a = toL b := leL_antisymm (List.not_lt.1 h2) (List.not_lt.1 h1)
        rw [toL_inj e]
        simp
      have HB : Hid (r = 0) := by show _ = _; rw [HR.out, cmpS, if_neg h1, if_neg h2]
      clear h1 h2
      go_wp2_with fail
      go_ret
      exact ⟨by rw [HB.out]; rfl, rfl⟩
def cmpM (x y : Mov) : Int := orI (cmpI x.src y.src) (cmpS x.mth y.mth)
set_option maxHeartbeats 400000 in
theorem ptcCompare_any (x y : Mov) (w : World) :
    Calls Tryz.prog 76 #[.agg #[.int .i64 x.src, .string x.mth, .int .i64 x.dst], .agg #[.int .i64 y.src, .string y.mth, .int .i64 y.dst]] w fun e w' => e = .returned (.int .i64 (cmpM x y)) ∧ Below w.heap.size w w' := by
  go_enter Tryz.func76, Tryz.ntmps76
  go_wp2
  refine wp_region_later_tail 10 (by kernel_rfl) (by kernel_rfl) ?_
  simp only [List.take_succ_cons, List.take_zero, List.drop_succ_cons, List.drop_zero]
  repeat (go_big_quiet_step (first | (go_at_call 127; exact Calls.later_same (cmpCompare_any _ _ _)) | (go_at_call 128; exact Calls.later_same (cmpCompareS_any _ _ _))))
  refine wpQuiet_nil ?_
  rintro _ ⟨z, rfl⟩
  go_wp2_with fail
  refine (cmpOr_any (cmpI x.src y.src) (cmpS x.mth y.mth) _ _ (by simp) (by simp)).mono ?_
  rintro e w' ⟨rfl, rfl⟩
  go_wp2_with fail
  go_ret
  exact ⟨rfl, (by repeat (first | assumption | exact Below.refl _ _ | apply bw_alloc | apply bw_drew | apply bw_drewN | apply bw_later | apply bw_step))⟩
end Go.Proofs.YthabojhnliomnaaGreatDoor
