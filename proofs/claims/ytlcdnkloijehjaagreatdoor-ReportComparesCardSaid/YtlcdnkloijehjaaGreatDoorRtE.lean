/-
  Chapter 47: the walk of the law ReportCompares.
-/
import Derived.Test.YtlcdnkloijehjaaGreatDoorRtD
import Derived.Test.YtlcdnkloijehjaaGreatDoorMr6
namespace Go.Proofs.YtlcdnkloijehjaaGreatDoor
open Go.RowKit
set_option linter.unusedVariables false

set_option maxHeartbeats 16000000 in
set_option maxRecDepth 100000 in
theorem walk_ReportCompares (r0 r1 : Rpt) (A0 A1 A2 B0 B1 B2 : Option Addr) (c0 c1 c2 d0 d1 d2 : Nat) (w : World) (hg : Glp w) (hk0 : Hid (∀ x ∈ r0.opn, OkKey x)) (hk1 : Hid (∀ x ∈ r1.opn, OkKey x)) (hsm0 : SmR r0) (hsm1 : SmR r1) (hs0 : Sl Lay.fnd w A0 r0.opn) (hs1 : Sl Lay.hdn w A1 r0.hdn) (hs2 : Sl Lay.fnd w B0 r1.opn) (hs3 : Sl Lay.hdn w B1 r1.hdn) :
    Calls Tryz.prog 6 #[.agg #[.slice A0 r0.opn.length c0, .slice A1 r0.hdn.length c1, .slice A2 r0.uns.length c2], .agg #[.slice B0 r1.opn.length d0, .slice B1 r1.hdn.length d1, .slice B2 r1.uns.length d2]] w fun e w' => e = .returned (.bool true) ∧ Below w.heap.size w w' := by
  have a0 := hsm0.l0; have a1 := hsm0.l1
  have b0 := hsm1.l0; have b1 := hsm1.l1
  have HZ0 := Lib.hid (fun W h => size_any r0 A0 A1 A2 c0 c1 c2 W (by omega) (by omega) (hs0.mono h) (hs1.mono h))
  have HZ1 := Lib.hid (fun W h => size_any r1 B0 B1 B2 d0 d1 d2 W (by omega) (by omega) (hs2.mono h) (hs3.mono h))
  have HW := Lib.hid (fun W h => awake_any W (hg.mono h))
  have H01 := Lib.hid (fun W h => compare_any r0.opn r1.opn A0 A1 A2 B0 B1 B2 c0 r0.hdn.length c1 r0.uns.length c2 d0 r1.hdn.length d1 r1.uns.length d2 W (hg.mono h).g hk0 hk1 a0 b0 (hs0.mono h) (hs2.mono h))
  have H10 := Lib.hid (fun W h => compare_any r1.opn r0.opn B0 B1 B2 A0 A1 A2 d0 r1.hdn.length d1 r1.uns.length d2 c0 r0.hdn.length c1 r0.uns.length c2 W (hg.mono h).g hk1 hk0 b0 a0 (hs2.mono h) (hs0.mono h))
  have H00 := Lib.hid (fun W h => compare_any r0.opn r0.opn A0 A1 A2 A0 A1 A2 c0 r0.hdn.length c1 r0.uns.length c2 c0 r0.hdn.length c1 r0.uns.length c2 W (hg.mono h).g hk0 hk0 a0 a0 (hs0.mono h) (hs0.mono h))
  have HR := Lib.hid (fun W h => refCompare_any r0.opn r1.opn A0 A1 A2 B0 B1 B2 c0 r0.hdn.length c1 r0.uns.length c2 d0 r1.hdn.length d1 r1.uns.length d2 W hk0 hk1 a0 b0 (hs0.mono h) (hs2.mono h))
  have hL0 : (minS (keysS r0.opn) (keysS r1.opn)).length ≤ 1600000000000 := by
    have h1 := minS_len (keysS r0.opn) (keysS r1.opn) (keysS r0.opn).length
    rw [List.take_length] at h1
    have := keysS_le a0
    omega
  have hL1 : (minS (keysS r1.opn) (keysS r0.opn)).length ≤ 1600000000000 := by
    have h1 := minS_len (keysS r1.opn) (keysS r0.opn) (keysS r1.opn).length
    rw [List.take_length] at h1
    have := keysS_le b0
    omega
  have HS := Lib.hid (minS_self (keysS r0.opn))
  unfold RetCm at H01 H10 H00 HR
  generalize keysS r0.opn = K0 at *
  generalize keysS r1.opn = K1 at *
  rw [HS.out] at H00
  simp only [List.length_nil] at H00
  generalize minS K0 K1 = M at *
  generalize minS K1 K0 = M' at *
  obtain ⟨O, H, U⟩ := r0
  obtain ⟨O', H', U'⟩ := r1
  simp only at HZ0 HZ1 H01 H10 H00 HR ⊢
  clear hk0 hk1 hsm0 hsm1 hs0 hs1 hs2 hs3 a0 a1 b0 b1 HS hg
  have bx1 : Box ((w.alloc (.cells #[.slice A0 O.length c0, .slice A1 H.length c1, .slice A2 U.length c2] 26)).alloc (.cells #[.slice B0 O'.length d0, .slice B1 H'.length d1, .slice B2 U'.length d2] 26)) w.heap.size [.slice A0 O.length c0, .slice A1 H.length c1, .slice A2 U.length c2] 26 := (by repeat (first | (refine Box.at ?_; (simp; done)) | apply Box.drew | apply Box.alloc | assumption))
  have by1 : Box ((w.alloc (.cells #[.slice A0 O.length c0, .slice A1 H.length c1, .slice A2 U.length c2] 26)).alloc (.cells #[.slice B0 O'.length d0, .slice B1 H'.length d1, .slice B2 U'.length d2] 26)) (w.heap.size + 1) [.slice B0 O'.length d0, .slice B1 H'.length d1, .slice B2 U'.length d2] 26 := (by repeat (first | (refine Box.at ?_; (simp; done)) | apply Box.drew | apply Box.alloc | assumption))
  have hb0 : Below w.heap.size w ((w.alloc (.cells #[.slice A0 O.length c0, .slice A1 H.length c1, .slice A2 U.length c2] 26)).alloc (.cells #[.slice B0 O'.length d0, .slice B1 H'.length d1, .slice B2 U'.length d2] 26)) := (by repeat (first | assumption | exact Below.refl _ _ | apply bw_alloc | apply bw_drew | apply bw_drewN | apply bw_later | apply bw_step))
  go_enter Tryz.func6, Tryz.ntmps6
  go_upto_region 1 with fail
  generalize World.alloc (World.alloc w _) _ = w1 at *
  have p0 := bx1.cell 0 rfl
  have p1 := bx1.cell 1 rfl
  have p2 := bx1.cell 2 rfl
  have pl := bx1.lt
  go_wp2_with fail
  refine (HZ0.out _ hb0).mono ?_
  rintro e w2 ⟨⟨z0, rfl⟩, hb2⟩
  have bx2 := bx1.mono hb2
  have by2 := by1.mono hb2
  have hbw2 := below_step hb0 hb2
  clear p0 p1 p2 pl bx1 by1 hb0 hb2 HZ0
  cases z0 with
  | false =>
    clear HZ1 H01 H10 H00 HR
    go_wp2_with fail
    refine (HW.out _ hbw2).mono ?_
    rintro e w3 ⟨rfl, hb3⟩
    go_wp2_with fail
    go_ret
    exact ⟨rfl, below_step hbw2 hb3⟩
  | true =>
  have q0 := by2.cell 0 rfl
  have q1 := by2.cell 1 rfl
  have q2 := by2.cell 2 rfl
  have ql := by2.lt
  go_wp2_with fail
  refine (HZ1.out _ hbw2).mono ?_
  rintro e w3 ⟨⟨z1, rfl⟩, hb3⟩
  have bx3 := bx2.mono hb3
  have by3 := by2.mono hb3
  have hbw3 := below_step hbw2 hb3
  clear q0 q1 q2 ql bx2 by2 hbw2 hb3 HZ1
  cases z1 with
  | false =>
    clear H01 H10 H00 HR
    go_wp2_with fail
    refine (HW.out _ hbw3).mono ?_
    rintro e w4 ⟨rfl, hb4⟩
    go_wp2_with fail
    go_ret
    exact ⟨rfl, below_step hbw3 hb4⟩
  | true =>
  have p0 := bx3.cell 0 rfl
  have p1 := bx3.cell 1 rfl
  have p2 := bx3.cell 2 rfl
  have pl := bx3.lt
  have q0 := by3.cell 0 rfl
  have q1 := by3.cell 1 rfl
  have q2 := by3.cell 2 rfl
  have ql := by3.lt
  go_wp2_with fail
  refine (H01.out _ hbw3).mono ?_
  rintro e w4 ⟨⟨E5, e5, E6, e6, rfl, m5, m6⟩, hb4⟩
  have bx4 := bx3.mono hb4
  have by4 := by3.mono hb4
  have hbw4 := below_step hbw3 hb4
  clear p0 p1 p2 pl q0 q1 q2 ql bx3 by3 hbw3 hb4 H01
  have p0 := bx4.cell 0 rfl
  have p1 := bx4.cell 1 rfl
  have p2 := bx4.cell 2 rfl
  have pl := bx4.lt
  have q0 := by4.cell 0 rfl
  have q1 := by4.cell 1 rfl
  have q2 := by4.cell 2 rfl
  have ql := by4.lt
  go_wp2_with fail
  refine (HR.out _ hbw4).mono ?_
  rintro e w5 ⟨⟨E7, e7, E8, e8, rfl, m7, m8⟩, hb5⟩
  have m5 := m5.mono hb5
  have m6 := m6.mono hb5
  have bx5 := bx4.mono hb5
  have by5 := by4.mono hb5
  have hbw5 := below_step hbw4 hb5
  clear p0 p1 p2 pl q0 q1 q2 ql bx4 by4 hbw4 hb5 HR
  have p0 := bx5.cell 0 rfl
  have p1 := bx5.cell 1 rfl
  have p2 := bx5.cell 2 rfl
  have pl := bx5.lt
  have q0 := by5.cell 0 rfl
  have q1 := by5.cell 1 rfl
  have q2 := by5.cell 2 rfl
  have ql := by5.lt
  go_wp2_with fail
  refine (H10.out _ hbw5).mono ?_
  rintro e w6 ⟨⟨E9, e9, E10, e10, rfl, m9, m10⟩, hb6⟩
  have m5 := m5.mono hb6
  have m6 := m6.mono hb6
  have m7 := m7.mono hb6
  have m8 := m8.mono hb6
  have bx6 := bx5.mono hb6
  have hbw6 := below_step hbw5 hb6
  clear p0 p1 p2 pl q0 q1 q2 ql bx5 by5 hbw5 hb6 H10
  have p0 := bx6.cell 0 rfl
  have p1 := bx6.cell 1 rfl
  have p2 := bx6.cell 2 rfl
  have pl := bx6.lt
  go_wp2_with fail
  refine (H00.out _ hbw6).mono ?_
  rintro e w7 ⟨⟨E11, e11, E12, e12, rfl, -, -⟩, hb7⟩
  have m5 := m5.mono hb7
  have m6 := m6.mono hb7
  have m7 := m7.mono hb7
  have m8 := m8.mono hb7
  have m9 := m9.mono hb7
  have m10 := m10.mono hb7
  have hbw7 := below_step hbw6 hb7
  clear p0 p1 p2 pl bx6 hbw6 hb7 H00
  have HQ0 := Lib.hid (fun W (h : Below w7.heap.size w7 W) => equal_any M E5 E7 e5 e7 W (by omega) (m5.mono h) (m7.mono h))
  have HQ1 := Lib.hid (fun W (h : Below w7.heap.size w7 W) => equal_any M' E6 E8 e6 e8 W (by omega) (m6.mono h) (m8.mono h))
  have HQ2 := Lib.hid (fun W (h : Below w7.heap.size w7 W) => equal_any M' E9 E8 e9 e8 W (by omega) (m9.mono h) (m8.mono h))
  have HQ3 := Lib.hid (fun W (h : Below w7.heap.size w7 W) => equal_any M E10 E7 e10 e7 W (by omega) (m10.mono h) (m7.mono h))
  clear m5 m6 m7 m8 m9 m10
  go_wp2_with fail
  refine (HQ0.out _ (Below.refl _ _)).mono ?_
  rintro e w8 ⟨rfl, hb8⟩
  go_wp2_with fail
  refine (HQ1.out _ hb8).mono ?_
  rintro e w9 ⟨rfl, hb9⟩
  have hb9 := below_step hb8 hb9
  go_wp2_with fail
  refine (HQ2.out _ hb9).mono ?_
  rintro e w10 ⟨rfl, hb10⟩
  have hb10 := below_step hb9 hb10
  go_wp2_with fail
  refine (HQ3.out _ hb10).mono ?_
  rintro e w11 ⟨rfl, hb11⟩
  have hb11 := below_step hbw7 (below_step hb10 hb11)
  go_wp2_with fail
  refine (HW.out _ hb11).mono ?_
  rintro e w12 ⟨rfl, hb12⟩
  go_wp2_with fail
  go_ret
  exact ⟨rfl, below_step hb11 hb12⟩
end Go.Proofs.YtlcdnkloijehjaaGreatDoor
