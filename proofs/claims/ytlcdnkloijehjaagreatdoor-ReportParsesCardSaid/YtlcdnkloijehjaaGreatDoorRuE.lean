/-
  Chapter 47: the walks of the laws ReportBack and ReportParses.
-/
import Derived.Test.YtlcdnkloijehjaaGreatDoorMr6
import Derived.Test.YtlcdnkloijehjaaGreatDoorMr5
namespace Go.Proofs.YtlcdnkloijehjaaGreatDoor
open Go.RowKit
set_option linter.unusedVariables false

theorem parR_zero {s : ByteArray} (h : (parR s).2.2 ≠ 0) : (parR s).1 = rpt0 := by
  unfold parR at h ⊢
  by_cases hb : 1048576 < s.size
  · rw [if_pos hb]
  rw [if_neg hb] at h ⊢
  unfold parL at h ⊢
  by_cases h1 : (sec1 (linesW s)).2.1 ≠ 0
  · rw [if_pos h1]
  rw [if_neg h1] at h ⊢
  by_cases h2 : (sec2 (linesW s)).2.1 ≠ 0
  · rw [if_pos h2]
  rw [if_neg h2] at h ⊢
  by_cases h3 : (sec3 (linesW s)).2.1 ≠ 0
  · rw [if_pos h3]
  rw [if_neg h3] at h ⊢
  by_cases h4 : (sec3 (linesW s)).1 < (linesW s).length ∨ decide (restN s ≠ []) = true
  · rw [if_pos h4]
  rw [if_neg h4] at h ⊢
  by_cases h5 : rptE ⟨(sec1 (linesW s)).2.2, (sec2 (linesW s)).2.2, (sec3 (linesW s)).2.2⟩ ≠ 0
  · rw [if_pos h5]
  rw [if_neg h5] at h
  exact absurd rfl h
set_option maxHeartbeats 8000000 in
set_option maxRecDepth 100000 in
theorem walk_ReportBack (r0 : Rpt) (A0 A1 A2 : Option Addr) (c0 c1 c2 : Nat) (w : World) (hg : Glp w) (hok : Hid (OkRpt r0)) (hsm : SmR r0) (hc0 : r0.opn.length ≤ c0) (hs0 : Sl Lay.fnd w A0 r0.opn) (hs1 : Sl Lay.hdn w A1 r0.hdn) (hs2 : Sl Lay.int w A2 r0.uns) :
    Calls Tryz.prog 4 #[.agg #[.slice A0 r0.opn.length c0, .slice A1 r0.hdn.length c1, .slice A2 r0.uns.length c2]] w fun e w' => e = .returned (.bool true) ∧ Below w.heap.size w w' := by
  have h0 := hsm.l0; have h1 := hsm.l1; have h2 := hsm.l2
  have HZ := Lib.hid (fun W h => size_any r0 A0 A1 A2 c0 c1 c2 W (by omega) (by omega) (hs0.mono h) (hs1.mono h))
  have HN := Lib.hid (fun W h => rptText_any r0 A0 A1 A2 c0 c1 c2 W hok (hg.mono h).g hc0 (hs0.mono h) (hs1.mono h) (hs2.mono h))
  have HM := Lib.hid (fun W h => refRptText_any r0 A0 A1 A2 c0 c1 c2 W hok (hs0.mono h) (hs1.mono h) (hs2.mono h))
  have HW := Lib.hid (fun W h => awake_any W (hg.mono h))
  have HSM := Lib.hid (fun W h B0 B1 B2 d0 d1 d2 k0 k1 k2 => sameRpt_any r0 B0 B1 B2 A0 A1 A2 d0 d1 d2 c0 c1 c2 W hok (by omega) (by omega) (by omega) k0 k1 k2 (hs0.mono h) (hs1.mono h) (hs2.mono h))
  obtain ⟨T, HT⟩ : ∃ T, Hid (T = txtR r0) := ⟨_, Lib.hid rfl⟩
  rw [← HT.out] at HN HM
  obtain ⟨tx, te⟩ := T
  have HBK : Hid (te = 0 → tx.size ≤ 1048576 → parR tx = (r0, 0, 0)) := fun hz hl => by
    have h := HT.out
    unfold txtR at h
    by_cases hE : rptE r0 = 0
    · rw [if_neg (by simp [hE])] at h
      injection h with e1 e2
      rw [e1] at hl ⊢
      rw [bsOf_size] at hl
      exact parR_back hE hl
    · rw [if_pos hE] at h
      injection h with e1 e2
      exact absurd (e2.symm.trans hz) hE
  have HPR := Lib.hid (fun W h hl => rptParse_any tx W (hg.mono h) hl)
  simp only at HN HM
  clear HT
  obtain ⟨O, H, U⟩ := r0
  simp only at h0 h1 h2 hc0 hs0 hs1 hs2 HZ HN HM HSM ⊢
  clear hok hsm hg hs0 hs1 hs2
  have bx0 := Box.new w [.slice A0 O.length c0, .slice A1 H.length c1, .slice A2 U.length c2] 26
  have hb0 : Below w.heap.size w (w.alloc (.cells #[.slice A0 O.length c0, .slice A1 H.length c1, .slice A2 U.length c2] 26)) := (by repeat (first | assumption | exact Below.refl _ _ | apply bw_alloc | apply bw_drew | apply bw_drewN | apply bw_later | apply bw_step))
  go_enter Tryz.func4, Tryz.ntmps4
  go_upto_region 1 with fail
  generalize World.alloc _ _ = w1 at *
  have p0 := bx0.cell 0 rfl
  have p1 := bx0.cell 1 rfl
  have p2 := bx0.cell 2 rfl
  have pl := bx0.lt
  go_wp2_with fail
  refine (HZ.out _ hb0).mono ?_
  rintro e w2 ⟨⟨bz, rfl⟩, hb2⟩
  have bx2 := bx0.mono hb2
  have hbw2 := below_step hb0 hb2
  clear p0 p1 p2 pl bx0 hb0 hb2 HZ
  cases bz with
  | false =>
    go_wp2_with fail
    refine (HW.out _ hbw2).mono ?_
    rintro e w3 ⟨rfl, hb3⟩
    go_wp2_with fail
    go_ret
    exact ⟨rfl, below_step hbw2 hb3⟩
  | true =>
    have p0 := bx2.cell 0 rfl
    have p1 := bx2.cell 1 rfl
    have p2 := bx2.cell 2 rfl
    have pl := bx2.lt
    go_wp2_with fail
    refine (HN.out _ hbw2).mono ?_
    rintro e w3 ⟨rfl, hb3⟩
    have bx3 := bx2.mono hb3
    have hbw3 := below_step hbw2 hb3
    clear p0 p1 p2 pl bx2 hbw2 hb3 HN
    have p0 := bx3.cell 0 rfl
    have p1 := bx3.cell 1 rfl
    have p2 := bx3.cell 2 rfl
    have pl := bx3.lt
    go_wp2_with fail
    refine (HM.out _ hbw3).mono ?_
    rintro e w4 ⟨rfl, hb4⟩
    have bx4 := bx3.mono hb4
    have hbw4 := below_step hbw3 hb4
    clear p0 p1 p2 pl bx3 hbw3 hb4 HM
    have t1 : (te != te) = false := by simp
    have t2 : (tx.toList == tx.toList) = true := by simp
    by_cases hz : te = 0
    case neg =>
      have t3 : (te != 0) = true := by simpa using hz
      clear hz
      go_wp2_with fail
      refine (HW.out _ hbw4).mono ?_
      rintro e w5 ⟨rfl, hb5⟩
      go_wp2_with fail
      go_ret
      exact ⟨rfl, below_step hbw4 hb5⟩
    subst hz
    by_cases hl : 1048576 < tx.size
    · have hl' : (1048576 : Int) < (tx.size : Int) := by omega
      go_wp2_with fail
      refine (HW.out _ hbw4).mono ?_
      rintro e w5 ⟨rfl, hb5⟩
      go_wp2_with fail
      go_ret
      exact ⟨rfl, below_step hbw4 hb5⟩
    have hl' : ¬ (1048576 : Int) < (tx.size : Int) := by omega
    have HP2 := Lib.hid (HPR.out w4 hbw4 (by omega))
    have HBB := Lib.hid (HBK.out rfl (by omega))
    rw [HBB.out] at HP2
    clear HBK HPR HBB hl
    go_wp2_with fail
    refine HP2.out.mono ?_
    rintro e w5 ⟨⟨B0, d0, B1, d1, B2, d2, rfl, -, -, -, k0, k1, k2⟩, hb5⟩
    simp only at k0 k1 k2
    have bx5 := bx4.mono hb5
    have hbw5 := below_step hbw4 hb5
    have hb6 : Below w5.heap.size w5 (w5.alloc (.cells #[.slice B0 O.length d0, .slice B1 H.length d1, .slice B2 U.length d2] 26)) := by exact (by repeat (first | assumption | exact Below.refl _ _ | apply bw_alloc | apply bw_drew | apply bw_drewN | apply bw_later | apply bw_step))
    have bx6 := bx5.mono hb6
    have by6 := Box.new w5 [.slice B0 O.length d0, .slice B1 H.length d1, .slice B2 U.length d2] 26
    have hbw6 := below_step hbw5 hb6
    have HS2 := Lib.hid (HSM.out _ hbw6 B0 B1 B2 d0 d1 d2 (k0.mono hb6) (k1.mono hb6) (k2.mono hb6))
    clear bx4 hbw4 hb5 bx5 hbw5 hb6 k0 k1 k2 HSM HP2
    go_upto_region 10 with fail
    generalize World.alloc w5 _ = w6 at *
    generalize w5.heap.size = b6 at *
    have p0 := bx6.cell 0 rfl
    have p1 := bx6.cell 1 rfl
    have p2 := bx6.cell 2 rfl
    have pl := bx6.lt
    have q0 := by6.cell 0 rfl
    have q1 := by6.cell 1 rfl
    have q2 := by6.cell 2 rfl
    have ql := by6.lt
    go_wp2_with fail
    refine HS2.out.mono ?_
    rintro e w7 ⟨rfl, hb7⟩
    go_wp2_with fail
    refine (HW.out _ (below_step hbw6 hb7)).mono ?_
    rintro e w8 ⟨rfl, hb8⟩
    go_wp2_with fail
    go_ret
    exact ⟨rfl, below_step (below_step hbw6 hb7) hb8⟩
set_option maxHeartbeats 8000000 in
set_option maxRecDepth 100000 in
theorem walk_ReportParses (s : ByteArray) (w : World) (hg : Glp w) (hs : s.size ≤ 9223372036854775807) :
    Calls Tryz.prog 5 #[.string s] w fun e w' => e = .returned (.bool true) ∧ Below w.heap.size w w' := by
  have HW := Lib.hid (fun W h => awake_any W (hg.mono h))
  by_cases hbig : 20000 < s.size
  · have hb' : (20000 : Int) < (s.size : Int) := by omega
    go_enter Tryz.func5, Tryz.ntmps5
    go_wp2_with fail
    refine (HW.out _ (Below.refl _ _)).mono ?_
    rintro e w5 ⟨rfl, hb5⟩
    go_wp2_with fail
    go_ret
    exact ⟨rfl, hb5⟩
  have hb' : ¬ (20000 : Int) < (s.size : Int) := by omega
  have HA := Lib.hid (fun W h => rptParse_any s W (hg.mono h) hs)
  have HB := Lib.hid (fun W (h : Below w.heap.size w W) => refParse_any s W hs)
  have HOK : Hid (OkRpt (parR s).1 ∧ (parR s).1.opn.length ≤ 1000000 ∧ (parR s).1.hdn.length ≤ 1000000 ∧ (parR s).1.uns.length ≤ 1000000) := by
    show _ ∧ _ ∧ _ ∧ _
    by_cases hz : (parR s).2.2 = 0
    · have h := parR_text (s := s) (r := (parR s).1) (n := (parR s).2.1) (by rw [← hz])
      have hv := rptE_ok h.2.1
      have n0 := hv.n0; have n1 := hv.n1; have n2 := hv.n2
      exact ⟨hv.ok, by omega, by omega, by omega⟩
    · have e1 : (parR s).1 = rpt0 := parR_zero hz
      rw [e1]
      exact ⟨⟨Nat.zero_le _, Nat.zero_le _, Nat.zero_le _, fun x h => by simp [rpt0] at h, fun x h => by simp [rpt0] at h⟩, Nat.zero_le _, Nat.zero_le _, Nat.zero_le _⟩
  have HTX : Hid ((parR s).2.2 = 0 → txtR (parR s).1 = (s, 0)) := fun hz => by
    have h := parR_text (s := s) (r := (parR s).1) (n := (parR s).2.1) (by rw [← hz])
    unfold txtR
    rw [if_neg (by rw [h.2.1]; simp), h.1]
  generalize parR s = T at *
  obtain ⟨⟨O, H, U⟩, ln, te⟩ := T
  try simp only at HOK HTX
  have hlo := HOK.out.2.1
  have hl1 := HOK.out.2.2.1
  have hl2 := HOK.out.2.2.2
  try simp only at hlo hl1 hl2
  have HOK2 : Hid (OkRpt ⟨O, H, U⟩) := HOK.out.1
  have HTXT := Lib.hid (fun W h B0 B1 B2 d0 d1 d2 e0 k0 k1 k2 => rptText_any ⟨O, H, U⟩ B0 B1 B2 d0 d1 d2 W HOK2 (hg.mono h).g e0 k0 k1 k2)
  have HSM := Lib.hid (fun W A0 A1 A2 c0 c1 c2 B0 B1 B2 d0 d1 d2 => sameRpt_any ⟨O, H, U⟩ A0 A1 A2 B0 B1 B2 c0 c1 c2 d0 d1 d2 W HOK2 (by simp only; omega) (by simp only; omega) (by simp only; omega))
  try simp only at HSM
  try simp only at HTXT
  clear HOK HOK2 hbig
  go_enter Tryz.func5, Tryz.ntmps5
  go_wp2_with fail
  refine (HA.out _ (Below.refl _ _)).mono ?_
  rintro e w1 ⟨⟨A0, c0, A1, c1, A2, c2, rfl, hc0, -, -, a0, a1, a2⟩, hb1⟩
  try simp only at hc0 a0 a1 a2
  have hb2 : Below w1.heap.size w1 (w1.alloc (.cells #[.slice A0 O.length c0, .slice A1 H.length c1, .slice A2 U.length c2] 26)) := by exact (by repeat (first | assumption | exact Below.refl _ _ | apply bw_alloc | apply bw_drew | apply bw_drewN | apply bw_later | apply bw_step))
  have bx2 := Box.new w1 [.slice A0 O.length c0, .slice A1 H.length c1, .slice A2 U.length c2] 26
  have a0 := a0.mono hb2
  have a1 := a1.mono hb2
  have a2 := a2.mono hb2
  have hbw2 := below_step hb1 hb2
  go_upto_region 4 with fail
  generalize World.alloc w1 _ = w2 at *
  generalize w1.heap.size = b1 at *
  clear hb1 hb2 HA
  go_wp2_with fail
  refine (HB.out _ hbw2).mono ?_
  rintro e w3 ⟨⟨B0, d0, B1, d1, B2, d2, rfl, -, -, -, k0, k1, k2⟩, hb3⟩
  try simp only at k0 k1 k2
  have bx3 := bx2.mono hb3
  have a0 := a0.mono hb3
  have a1 := a1.mono hb3
  have a2 := a2.mono hb3
  have hbw3 := below_step hbw2 hb3
  have hb4 : Below w3.heap.size w3 (w3.alloc (.cells #[.slice B0 O.length d0, .slice B1 H.length d1, .slice B2 U.length d2] 26)) := by exact (by repeat (first | assumption | exact Below.refl _ _ | apply bw_alloc | apply bw_drew | apply bw_drewN | apply bw_later | apply bw_step))
  have by4 := Box.new w3 [.slice B0 O.length d0, .slice B1 H.length d1, .slice B2 U.length d2] 26
  have bx4 := bx3.mono hb4
  have a0 := a0.mono hb4
  have a1 := a1.mono hb4
  have a2 := a2.mono hb4
  have hbw4 := below_step hbw3 hb4
  have HS2 := Lib.hid (HSM.out _ B0 B1 B2 d0 d1 d2 A0 A1 A2 c0 c1 c2 (k0.mono hb4) (k1.mono hb4) (k2.mono hb4) a0 a1 a2)
  go_upto_region 5 with fail
  generalize World.alloc w3 _ = w4 at *
  generalize w3.heap.size = b3 at *
  clear bx2 bx3 hbw2 hb3 hbw3 hb4 k0 k1 k2 HB HSM
  have t1 : (te != te) = false := by simp
  have t2 : (ln != ln) = false := by simp
  have p0 := bx4.cell 0 rfl
  have p1 := bx4.cell 1 rfl
  have p2 := bx4.cell 2 rfl
  have pl := bx4.lt
  have q0 := by4.cell 0 rfl
  have q1 := by4.cell 1 rfl
  have q2 := by4.cell 2 rfl
  have ql := by4.lt
  go_wp2_with fail
  refine HS2.out.mono ?_
  rintro e w5 ⟨rfl, hb5⟩
  have bx5 := bx4.mono hb5
  have a0 := a0.mono hb5
  have a1 := a1.mono hb5
  have a2 := a2.mono hb5
  have hbw5 := below_step hbw4 hb5
  clear p0 p1 p2 pl q0 q1 q2 ql bx4 by4 hbw4 hb5 HS2
  by_cases hz : te = 0
  case neg =>
    have t3 : (te == 0) = false := by simpa using hz
    clear hz
    go_wp2_with fail
    refine (HW.out _ hbw5).mono ?_
    rintro e w6 ⟨rfl, hb6⟩
    go_wp2_with fail
    go_ret
    exact ⟨rfl, below_step hbw5 hb6⟩
  subst hz
  have HT5 := Lib.hid (HTXT.out _ hbw5 A0 A1 A2 c0 c1 c2 hc0 a0 a1 a2)
  rw [HTX.out rfl] at HT5
  try simp only at HT5
  have t4 : (s.toList == s.toList) = true := by simp
  have p0 := bx5.cell 0 rfl
  have p1 := bx5.cell 1 rfl
  have p2 := bx5.cell 2 rfl
  have pl := bx5.lt
  clear HTX HTXT a0 a1 a2
  go_wp2_with fail
  refine HT5.out.mono ?_
  rintro e w6 ⟨rfl, hb6⟩
  go_wp2_with fail
  refine (HW.out _ (below_step hbw5 hb6)).mono ?_
  rintro e w7 ⟨rfl, hb7⟩
  go_wp2_with fail
  go_ret
  exact ⟨rfl, below_step (below_step hbw5 hb6) hb7⟩
end Go.Proofs.YtlcdnkloijehjaaGreatDoor
