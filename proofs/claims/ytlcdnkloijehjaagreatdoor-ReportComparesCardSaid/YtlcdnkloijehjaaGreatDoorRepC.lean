/-
  Chapter 45: the order of findings, in the program and in the reference. (Printed by wip/gen/repC.py.)
-/
import Derived.Test.YtlcdnkloijehjaaGreatDoorRepB
import Derived.Test.YtlcdnkloijehjaaGreatDoorBox
namespace Go.Proofs.YtlcdnkloijehjaaGreatDoor
open Go.RowKit
set_option linter.unusedVariables false

set_option maxHeartbeats 4000000 in
set_option maxRecDepth 100000 in
theorem cmpF_prog (x y : Fnd) (A B : Option Addr) (c d : Nat) (w : World) (hl : x.path.length ≤ 9223372036854775807) (hm : y.path.length ≤ 9223372036854775807) (ha : Sl Lay.plc w A x.path) (hb : Sl Lay.plc w B y.path) :
    Calls Tryz.prog 22 #[.agg #[.int .i64 x.kind, .string x.plc.cls, .string x.plc.mth, .int .i64 x.plc.ins, .string x.what, .slice A x.path.length c], .agg #[.int .i64 y.kind, .string y.plc.cls, .string y.plc.mth, .int .i64 y.plc.ins, .string y.what, .slice B y.path.length d]] w fun e w' => e = .returned (.int .i64 (cmpF x y)) ∧ Below w.heap.size w w' := by
  have hbx : Box ((w.alloc (.cells #[.int .i64 x.kind, .string x.plc.cls, .string x.plc.mth, .int .i64 x.plc.ins, .string x.what, .slice A x.path.length c] 46)).alloc (.cells #[.int .i64 y.kind, .string y.plc.cls, .string y.plc.mth, .int .i64 y.plc.ins, .string y.what, .slice B y.path.length d] 46)) w.heap.size [.int .i64 x.kind, .string x.plc.cls, .string x.plc.mth, .int .i64 x.plc.ins, .string x.what, .slice A x.path.length c] 46 := (Box.new _ _ _).alloc _
  have hby : Box ((w.alloc (.cells #[.int .i64 x.kind, .string x.plc.cls, .string x.plc.mth, .int .i64 x.plc.ins, .string x.what, .slice A x.path.length c] 46)).alloc (.cells #[.int .i64 y.kind, .string y.plc.cls, .string y.plc.mth, .int .i64 y.plc.ins, .string y.what, .slice B y.path.length d] 46)) (w.heap.size + 1) [.int .i64 y.kind, .string y.plc.cls, .string y.plc.mth, .int .i64 y.plc.ins, .string y.what, .slice B y.path.length d] 46 := Box.at (by simp)
  have hbw : Below w.heap.size w ((w.alloc (.cells #[.int .i64 x.kind, .string x.plc.cls, .string x.plc.mth, .int .i64 x.plc.ins, .string x.what, .slice A x.path.length c] 46)).alloc (.cells #[.int .i64 y.kind, .string y.plc.cls, .string y.plc.mth, .int .i64 y.plc.ins, .string y.what, .slice B y.path.length d] 46)) := (by repeat (first | assumption | exact Below.refl _ _ | apply bw_alloc | apply bw_drew | apply bw_drewN | apply bw_later | apply bw_step))
  obtain ⟨r, HR⟩ : ∃ r, Hid (r = cmpF x y) := ⟨_, Lib.hid rfl⟩
  rw [← HR.out]
  unfold cmpF at HR
  obtain ⟨c1, H1⟩ : ∃ r, Hid (r = cmpP x.plc y.plc) := ⟨_, Lib.hid rfl⟩
  obtain ⟨c2, H2⟩ : ∃ r, Hid (r = cmpI x.kind y.kind) := ⟨_, Lib.hid rfl⟩
  obtain ⟨c3, H3⟩ : ∃ r, Hid (r = cmpS x.what y.what) := ⟨_, Lib.hid rfl⟩
  have K1 := fun W => cmpP_prog x.plc y.plc W
  have K2 := fun W => cmpI_prog x.kind y.kind W
  have K3 := fun W => cmpS_prog x.what y.what W
  rw [← H1.out] at HR K1
  rw [← H2.out] at HR K2
  rw [← H3.out] at HR K3
  clear H1 H2 H3
  obtain ⟨xk, xp, xw, xl⟩ := x
  obtain ⟨yk, yp, yw, yl⟩ := y
  simp only at HR K1 K2 K3 hbx hby hbw ha hb hl hm ⊢
  go_enter Tryz.func22, Tryz.ntmps22
  go_upto_region 1 with fail
  generalize hW : World.alloc _ _ = W0 at *
  clear hW
  have x0 := hbx.cell 0 rfl
  have y0 := hby.cell 0 rfl
  have x1 := hbx.cell 1 rfl
  have y1 := hby.cell 1 rfl
  have x2 := hbx.cell 2 rfl
  have y2 := hby.cell 2 rfl
  have x3 := hbx.cell 3 rfl
  have y3 := hby.cell 3 rfl
  have x4 := hbx.cell 4 rfl
  have y4 := hby.cell 4 rfl
  have x5 := hbx.cell 5 rfl
  have y5 := hby.cell 5 rfl
  have pl := hbx.lt
  have ql := hby.lt
  go_wp2_with fail
  refine (K1 _).mono ?_
  rintro e w1 ⟨rfl, hb1⟩
  clear x0 y0 x1 y1 x2 y2 x3 y3 x4 y4 x5 y5 pl ql
  have hbx := hbx.mono hb1
  have hby := hby.mono hb1
  have hbw := below_step hbw hb1
  by_cases h1 : c1 = 0
  · rw [thenI_z h1] at HR
    have t1 : (c1 != 0) = false := by simp [h1]
    clear h1
    have x0 := hbx.cell 0 rfl
    have y0 := hby.cell 0 rfl
    have x1 := hbx.cell 1 rfl
    have y1 := hby.cell 1 rfl
    have x2 := hbx.cell 2 rfl
    have y2 := hby.cell 2 rfl
    have x3 := hbx.cell 3 rfl
    have y3 := hby.cell 3 rfl
    have x4 := hbx.cell 4 rfl
    have y4 := hby.cell 4 rfl
    have x5 := hbx.cell 5 rfl
    have y5 := hby.cell 5 rfl
    have pl := hbx.lt
    have ql := hby.lt
    go_wp2_with fail
    refine (K2 _).mono ?_
    rintro e w1 ⟨rfl, rfl⟩
    by_cases h2 : c2 = 0
    · rw [thenI_z h2] at HR
      have t2 : (c2 != 0) = false := by simp [h2]
      clear h2
      go_wp2_with fail
      refine (K3 _).mono ?_
      rintro e w1 ⟨rfl, rfl⟩
      by_cases h3 : c3 = 0
      · rw [thenI_z h3] at HR
        have t3 : (c3 != 0) = false := by simp [h3]
        clear h3
        go_wp2_with fail
        refine (cmpPs_prog xl yl A B c d _ hl hm (ha.mono hbw) (hb.mono hbw)).mono ?_
        rintro e w2 ⟨rfl, hb2⟩
        have hbw := below_step hbw hb2
        go_wp2_with fail
        go_ret
        exact ⟨by rw [HR.out]; rfl, hbw⟩
      · rw [thenI_n h3] at HR
        have t3 : (c3 != 0) = true := by simp [h3]
        clear h3
        go_wp2_with fail
        go_ret
        exact ⟨by rw [HR.out]; rfl, hbw⟩
    · rw [thenI_n h2] at HR
      have t2 : (c2 != 0) = true := by simp [h2]
      clear h2
      go_wp2_with fail
      go_ret
      exact ⟨by rw [HR.out]; rfl, hbw⟩
  · rw [thenI_n h1] at HR
    have t1 : (c1 != 0) = true := by simp [h1]
    clear h1
    go_wp2_with fail
    go_ret
    exact ⟨by rw [HR.out]; rfl, hbw⟩
set_option maxHeartbeats 4000000 in
set_option maxRecDepth 100000 in
theorem cmpF_ref (x y : Fnd) (A B : Option Addr) (c d : Nat) (w : World) (hl : x.path.length ≤ 9223372036854775807) (hm : y.path.length ≤ 9223372036854775807) (ha : Sl Lay.plc w A x.path) (hb : Sl Lay.plc w B y.path) :
    Calls Tryz.prog 28 #[.agg #[.int .i64 x.kind, .string x.plc.cls, .string x.plc.mth, .int .i64 x.plc.ins, .string x.what, .slice A x.path.length c], .agg #[.int .i64 y.kind, .string y.plc.cls, .string y.plc.mth, .int .i64 y.plc.ins, .string y.what, .slice B y.path.length d]] w fun e w' => e = .returned (.int .i64 (cmpF x y)) ∧ Below w.heap.size w w' := by
  have hbx : Box ((w.alloc (.cells #[.int .i64 x.kind, .string x.plc.cls, .string x.plc.mth, .int .i64 x.plc.ins, .string x.what, .slice A x.path.length c] 46)).alloc (.cells #[.int .i64 y.kind, .string y.plc.cls, .string y.plc.mth, .int .i64 y.plc.ins, .string y.what, .slice B y.path.length d] 46)) w.heap.size [.int .i64 x.kind, .string x.plc.cls, .string x.plc.mth, .int .i64 x.plc.ins, .string x.what, .slice A x.path.length c] 46 := (Box.new _ _ _).alloc _
  have hby : Box ((w.alloc (.cells #[.int .i64 x.kind, .string x.plc.cls, .string x.plc.mth, .int .i64 x.plc.ins, .string x.what, .slice A x.path.length c] 46)).alloc (.cells #[.int .i64 y.kind, .string y.plc.cls, .string y.plc.mth, .int .i64 y.plc.ins, .string y.what, .slice B y.path.length d] 46)) (w.heap.size + 1) [.int .i64 y.kind, .string y.plc.cls, .string y.plc.mth, .int .i64 y.plc.ins, .string y.what, .slice B y.path.length d] 46 := Box.at (by simp)
  have hbw : Below w.heap.size w ((w.alloc (.cells #[.int .i64 x.kind, .string x.plc.cls, .string x.plc.mth, .int .i64 x.plc.ins, .string x.what, .slice A x.path.length c] 46)).alloc (.cells #[.int .i64 y.kind, .string y.plc.cls, .string y.plc.mth, .int .i64 y.plc.ins, .string y.what, .slice B y.path.length d] 46)) := (by repeat (first | assumption | exact Below.refl _ _ | apply bw_alloc | apply bw_drew | apply bw_drewN | apply bw_later | apply bw_step))
  obtain ⟨r, HR⟩ : ∃ r, Hid (r = cmpF x y) := ⟨_, Lib.hid rfl⟩
  rw [← HR.out]
  unfold cmpF at HR
  obtain ⟨c1, H1⟩ : ∃ r, Hid (r = cmpP x.plc y.plc) := ⟨_, Lib.hid rfl⟩
  obtain ⟨c2, H2⟩ : ∃ r, Hid (r = cmpI x.kind y.kind) := ⟨_, Lib.hid rfl⟩
  obtain ⟨c3, H3⟩ : ∃ r, Hid (r = cmpS x.what y.what) := ⟨_, Lib.hid rfl⟩
  have K1 := fun W => cmpP_ref x.plc y.plc W
  have K2 := fun W => cmpI_ref x.kind y.kind W
  have K3 := fun W => cmpS_ref x.what y.what W
  rw [← H1.out] at HR K1
  rw [← H2.out] at HR K2
  rw [← H3.out] at HR K3
  clear H1 H2 H3
  obtain ⟨xk, xp, xw, xl⟩ := x
  obtain ⟨yk, yp, yw, yl⟩ := y
  simp only at HR K1 K2 K3 hbx hby hbw ha hb hl hm ⊢
  go_enter Tryz.func28, Tryz.ntmps28
  go_upto_region 1 with fail
  generalize hW : World.alloc _ _ = W0 at *
  clear hW
  have x0 := hbx.cell 0 rfl
  have y0 := hby.cell 0 rfl
  have x1 := hbx.cell 1 rfl
  have y1 := hby.cell 1 rfl
  have x2 := hbx.cell 2 rfl
  have y2 := hby.cell 2 rfl
  have x3 := hbx.cell 3 rfl
  have y3 := hby.cell 3 rfl
  have x4 := hbx.cell 4 rfl
  have y4 := hby.cell 4 rfl
  have x5 := hbx.cell 5 rfl
  have y5 := hby.cell 5 rfl
  have pl := hbx.lt
  have ql := hby.lt
  go_wp2_with fail
  refine (K1 _).mono ?_
  rintro e w1 ⟨rfl, hb1⟩
  clear x0 y0 x1 y1 x2 y2 x3 y3 x4 y4 x5 y5 pl ql
  have hbx := hbx.mono hb1
  have hby := hby.mono hb1
  have hbw := below_step hbw hb1
  by_cases h1 : c1 = 0
  · rw [thenI_z h1] at HR
    have t1 : (c1 != 0) = false := by simp [h1]
    clear h1
    have x0 := hbx.cell 0 rfl
    have y0 := hby.cell 0 rfl
    have x1 := hbx.cell 1 rfl
    have y1 := hby.cell 1 rfl
    have x2 := hbx.cell 2 rfl
    have y2 := hby.cell 2 rfl
    have x3 := hbx.cell 3 rfl
    have y3 := hby.cell 3 rfl
    have x4 := hbx.cell 4 rfl
    have y4 := hby.cell 4 rfl
    have x5 := hbx.cell 5 rfl
    have y5 := hby.cell 5 rfl
    have pl := hbx.lt
    have ql := hby.lt
    go_wp2_with fail
    refine (K2 _).mono ?_
    rintro e w1 ⟨rfl, rfl⟩
    by_cases h2 : c2 = 0
    · rw [thenI_z h2] at HR
      have t2 : (c2 != 0) = false := by simp [h2]
      clear h2
      go_wp2_with fail
      refine (K3 _).mono ?_
      rintro e w1 ⟨rfl, rfl⟩
      by_cases h3 : c3 = 0
      · rw [thenI_z h3] at HR
        have t3 : (c3 != 0) = false := by simp [h3]
        clear h3
        go_upto_region 11 with fail
        obtain ⟨wo, rfl⟩ : ∃ wo : World, wo = w1 := ⟨_, rfl⟩
        clear x0 y0 x1 y1 x2 y2 x3 y3 x4 y4 x5 y5 pl ql
        go_loopw [8] (fun i wr => ∃ k : Nat, k ≤ xl.length ∧ k ≤ yl.length ∧ i = .int .i64 k ∧ Hid (r = cmpPs (xl.drop k) (yl.drop k)) ∧ Box wr w.heap.size [.int .i64 xk, .string xp.cls, .string xp.mth, .int .i64 xp.ins, .string xw, .slice A xl.length c] 46 ∧ Box wr (w.heap.size + 1) [.int .i64 yk, .string yp.cls, .string yp.mth, .int .i64 yp.ins, .string yw, .slice B yl.length d] 46 ∧ Below w.heap.size w wr) (fun i _ => xl.length - (intOf i).toNat)
        case atStart => exact ⟨0, Nat.zero_le _, Nat.zero_le _, rfl, HR, hbx, hby, hbw⟩
        case round =>
          clear HR hbx hby hbw
          obtain ⟨k, hk, hk2, rfl, HR, hbx, hby, hbw⟩ := hrel
          have x5 := hbx.cell 5 rfl
          have y5 := hby.cell 5 rfl
          have pl := hbx.lt
          have ql := hby.lt
          by_cases hlt : k < xl.length
          · by_cases hlt2 : k < yl.length
            · obtain ⟨b, o, rfl, h1, d0, d1, d2⟩ := (ha.mono hbw).plc_at hlt
              obtain ⟨b', o', rfl, h2, e0, e1, e2⟩ := (hb.mono hbw).plc_at hlt2
              have HS := Lib.hid (cmpPs_step hlt hlt2)
              obtain ⟨q, HQ⟩ : ∃ q, Hid (q = cmpP xl[k] yl[k]) := ⟨_, Lib.hid rfl⟩
              have HC := fun W => cmpP_ref xl[k] yl[k] W
              rw [← HQ.out] at HS HC
              have HR2 : Hid (r = thenI q (cmpPs (xl.drop (k + 1)) (yl.drop (k + 1)))) := Lib.hid (HR.out.trans HS.out)
              clear HR HS HQ
              go_wp2_with fail
              refine wp_region_later (by kernel_rfl) (by kernel_rfl) ?_
              repeat (go_big_quiet_step ((go_at_call 65; exact Calls.later (HC _))))
              refine wpQuiet_nil ?_
              rintro _ ⟨z, rfl⟩
              have hbx := hbx.mono z.h
              have hby := hby.mono z.h
              have hbw := below_step hbw z.h
              by_cases hq : q = 0
              · rw [thenI_z hq] at HR2
                have t1 : (q != 0) = false := by simp [hq]
                clear hq
                go_wp2_with fail
                go_roundw
                case rel => exact ⟨k + 1, by omega, by omega, by go_num, HR2, hbx, hby, hbw⟩
                case measure => simp [intOf]; omega
              · rw [thenI_n hq] at HR2
                have t1 : (q != 0) = true := by simp [hq]
                clear hq
                go_wp2_with fail
                go_ret
                exact ⟨by rw [HR2.out]; rfl, hbw⟩
            · have HB : Hid (r = cmpI xl.length yl.length) := by
                show _ = _
                rw [HR.out, cmpPs_end (by omega)]
                unfold cmpI Lib.compareInt
                simp only [List.length_drop]
                have e1 : ((xl.length - k : Nat) : Int) < ((yl.length - k : Nat) : Int) ↔ (xl.length : Int) < (yl.length : Int) := by omega
                have e2 : ((xl.length - k : Nat) : Int) > ((yl.length - k : Nat) : Int) ↔ (xl.length : Int) > (yl.length : Int) := by omega
                simp only [e1, e2]
              go_wp2_with fail
              refine (cmpI_ref xl.length yl.length _).mono ?_
              rintro e w1 ⟨rfl, rfl⟩
              go_wp2_with fail
              go_ret
              exact ⟨by rw [HB.out]; rfl, hbw⟩
          · have HB : Hid (r = cmpI xl.length yl.length) := by
              show _ = _
              rw [HR.out, cmpPs_end (by omega)]
              unfold cmpI Lib.compareInt
              simp only [List.length_drop]
              have e1 : ((xl.length - k : Nat) : Int) < ((yl.length - k : Nat) : Int) ↔ (xl.length : Int) < (yl.length : Int) := by omega
              have e2 : ((xl.length - k : Nat) : Int) > ((yl.length - k : Nat) : Int) ↔ (xl.length : Int) > (yl.length : Int) := by omega
              simp only [e1, e2]
            go_wp2_with fail
            refine (cmpI_ref xl.length yl.length _).mono ?_
            rintro e w1 ⟨rfl, rfl⟩
            go_wp2_with fail
            go_ret
            exact ⟨by rw [HB.out]; rfl, hbw⟩
      · rw [thenI_n h3] at HR
        have t3 : (c3 != 0) = true := by simp [h3]
        clear h3
        go_wp2_with fail
        go_ret
        exact ⟨by rw [HR.out]; rfl, hbw⟩
    · rw [thenI_n h2] at HR
      have t2 : (c2 != 0) = true := by simp [h2]
      clear h2
      go_wp2_with fail
      go_ret
      exact ⟨by rw [HR.out]; rfl, hbw⟩
  · rw [thenI_n h1] at HR
    have t1 : (c1 != 0) = true := by simp [h1]
    clear h1
    go_wp2_with fail
    go_ret
    exact ⟨by rw [HR.out]; rfl, hbw⟩
end Go.Proofs.YtlcdnkloijehjaaGreatDoor
