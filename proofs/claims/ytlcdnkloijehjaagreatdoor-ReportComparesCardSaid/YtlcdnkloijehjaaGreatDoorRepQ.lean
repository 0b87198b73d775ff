/-
  Chapter 47: dataflowref47.Check. (Printed by wip/gen/repQ.py.)
-/
import Derived.Test.YtlcdnkloijehjaaGreatDoorRepP
namespace Go.Proofs.YtlcdnkloijehjaaGreatDoor
open Go.RowKit
set_option linter.unusedVariables false

set_option maxHeartbeats 16000000 in
set_option maxRecDepth 100000 in
theorem refRptCheck_any (r0 : Rpt) (A0 A1 A2 : Option Addr) (c0 c1 c2 : Nat) (w : World) (hok : Hid (OkRpt r0)) (hs0 : Sl Lay.fnd w A0 r0.opn) (hs1 : Sl Lay.hdn w A1 r0.hdn) (hs2 : Sl Lay.int w A2 r0.uns) :
    Calls Tryz.prog 12 #[.agg #[.slice A0 r0.opn.length c0, .slice A1 r0.hdn.length c1, .slice A2 r0.uns.length c2]] w fun e w' => e = .returned (.int .i64 (rptE r0)) ∧ Below w.heap.size w w' := by
  obtain ⟨r, HR⟩ : ∃ r, Hid (r = rptE r0) := ⟨_, Lib.hid rfl⟩
  rw [← HR.out]
  have HL := Lib.hid (rptE_long (r := r0))
  have HS := Lib.hid (rptE_short (r := r0))
  have HTL : Hid (RptTail r0 = if risesB r0.opn && risesB (hidden r0) then (if r0.opn.any (hasF (hidden r0)) then 7 else noteE r0.hdn r0.uns) else 13) := rfl
  have HO1 := Lib.hid hok.out.opn
  have HO2 : Hid (∀ x ∈ hidden r0, OkFnd x) := by
    show ∀ x, _
    intro x hx
    obtain ⟨h, hm, rfl⟩ := List.mem_map.1 hx
    exact hok.out.hdn h hm
  have l0 := hok.out.l0
  have l1 := hok.out.l1
  have l2 := hok.out.l2
  have HHD : Hid (hidden r0 = r0.hdn.map (·.f)) := rfl
  generalize RptTail r0 = tl at *
  obtain ⟨opn, H, U⟩ := r0
  simp only at HL HS HTL HO1 l0 l1 l2 hs0 hs1 hs2 HHD ⊢
  generalize hhid : hidden ⟨opn, H, U⟩ = hid at *
  clear hhid
  have bx0 := Box.new w [.slice A0 opn.length c0, .slice A1 H.length c1, .slice A2 U.length c2] 26
  have hb0 : Below w.heap.size w (w.alloc (.cells #[.slice A0 opn.length c0, .slice A1 H.length c1, .slice A2 U.length c2] 26)) := (by repeat (first | assumption | exact Below.refl _ _ | apply bw_alloc | apply bw_drew | apply bw_drewN | apply bw_later | apply bw_step))
  go_enter Tryz.func12, Tryz.ntmps12
  by_cases k1 : 1000 < opn.length
  · have HB : Hid (r = 3) := Lib.hid (HR.out.trans (HL.out (Or.inl k1)))
    have k1' : 1000 < (opn.length : Int) := by omega
    go_wp2_with fail
    go_ret
    exact ⟨by rw [HB.out]; rfl, hb0⟩
  have k1' : ¬ 1000 < (opn.length : Int) := by omega
  by_cases k2 : 1000 < H.length
  · have HB : Hid (r = 3) := Lib.hid (HR.out.trans (HL.out (Or.inr (Or.inl k2))))
    have k2' : 1000 < (H.length : Int) := by omega
    go_wp2_with fail
    go_ret
    exact ⟨by rw [HB.out]; rfl, hb0⟩
  have k2' : ¬ 1000 < (H.length : Int) := by omega
  by_cases k3 : 200 < U.length
  · have HB : Hid (r = 3) := Lib.hid (HR.out.trans (HL.out (Or.inr (Or.inr k3))))
    have k3' : 200 < (U.length : Int) := by omega
    go_wp2_with fail
    go_ret
    exact ⟨by rw [HB.out]; rfl, hb0⟩
  have k3' : ¬ 200 < (U.length : Int) := by omega
  have HR1 : Hid (r = thenI (fndsE opn) (thenI (fndsE hid) tl)) := Lib.hid (HR.out.trans (HS.out (by omega)))
  clear HR HL HS
  go_wp2_with fail
  refine (refHidden_any H A0 A1 A2 opn.length c0 c1 U.length c2 _ (by omega) (hs1.mono hb0)).mono ?_
  rintro e w1 ⟨⟨Ah, ch, rfl, hch, hsh⟩, hb1⟩
  rw [← HHD.out] at hch hsh ⊢
  have hhl : hid.length ≤ 1000 := by rw [HHD.out, List.length_map]; omega
  have hbx1 := bx0.mono hb1
  have hbw1 := below_step hb0 hb1
  clear bx0 hb0 hb1 HHD k1' k2' k3'
  have p0 := hbx1.cell 0 rfl
  have pl := hbx1.lt
  obtain ⟨q, HQ⟩ : ∃ q, Hid (q = fndsE opn) := ⟨_, Lib.hid rfl⟩
  have HC1 := fun W h => refFnds_any opn A0 c0 W (by omega) HO1 (hs0.mono h)
  have HC1 := Lib.hid HC1
  rw [← HQ.out] at HR1 HC1
  go_wp2_with fail
  refine (HC1.out _ hbw1).mono ?_
  rintro e w2 ⟨rfl, hb2⟩
  have hbx2 := hbx1.mono hb2
  have hbw2 := below_step hbw1 hb2
  have hsh2 := hsh.mono hb2
  clear hbx1 hbw1 hsh hb2 HC1 HQ p0 pl
  by_cases hq : q = 0
  case neg =>
    rw [thenI_n hq] at HR1
    have tq : (q != 0) = true := by simp [hq]
    clear hq
    go_wp2_with fail
    go_ret
    exact ⟨by rw [HR1.out]; rfl, hbw2⟩
  rw [thenI_z hq] at HR1
  have tq : (q != 0) = false := by simp [hq]
  clear hq
  obtain ⟨q2, HQ⟩ : ∃ q, Hid (q = fndsE hid) := ⟨_, Lib.hid rfl⟩
  have HC1 := Lib.hid (fun W h => refFnds_any hid Ah ch W (by omega) HO2 (hsh2.mono h))
  rw [← HQ.out] at HR1 HC1
  go_wp2_with fail
  refine (HC1.out _ (Below.refl _ _)).mono ?_
  rintro e w3 ⟨rfl, hb3⟩
  have hbx3 := hbx2.mono hb3
  have hbw3 := below_step hbw2 hb3
  have hsh3 := hsh2.mono hb3
  clear hbx2 hbw2 hsh2 hb3 HC1 HQ
  by_cases hq : q2 = 0
  case neg =>
    rw [thenI_n hq] at HR1
    have tq2 : (q2 != 0) = true := by simp [hq]
    clear hq
    go_wp2_with fail
    go_ret
    exact ⟨by rw [HR1.out]; rfl, hbw3⟩
  rw [thenI_z hq] at HR1
  have tq2 : (q2 != 0) = false := by simp [hq]
  clear hq
  have HR2 : Hid (r = if risesB opn && risesB hid then (if opn.any (hasF hid) then 7 else noteE H U) else 13) := Lib.hid (HR1.out.trans HTL.out)
  clear HR1 HTL
  have p0 := hbx3.cell 0 rfl
  have pl := hbx3.lt
  obtain ⟨b1, HB1⟩ : ∃ b, Hid (b = risesB opn) := ⟨_, Lib.hid rfl⟩
  have HC1 := Lib.hid (fun W h => refRises_any opn A0 c0 W (by omega) HO1 (hs0.mono h))
  rw [← HB1.out] at HR2 HC1
  go_wp2_with fail
  refine (HC1.out _ hbw3).mono ?_
  rintro e w4 ⟨rfl, hb4⟩
  have hbx4 := hbx3.mono hb4
  have hbw4 := below_step hbw3 hb4
  have hsh4 := hsh3.mono hb4
  clear hbx3 hbw3 hsh3 hb4 HC1 p0 pl
  cases b1 with
  | false =>
    have HB : Hid (r = 13) := Lib.hid HR2.out
    clear HR2 HB1
    go_wp2_with fail
    go_ret
    exact ⟨by rw [HB.out]; rfl, hbw4⟩
  | true =>
  obtain ⟨b2, HB2⟩ : ∃ b, Hid (b = risesB hid) := ⟨_, Lib.hid rfl⟩
  have HC1 := Lib.hid (fun W h => refRises_any hid Ah ch W (by omega) HO2 (hsh4.mono h))
  rw [← HB2.out] at HR2 HC1
  go_wp2_with fail
  refine (HC1.out _ (Below.refl _ _)).mono ?_
  rintro e w5 ⟨rfl, hb5⟩
  have hbx5 := hbx4.mono hb5
  have hbw5 := below_step hbw4 hb5
  have hsh5 := hsh4.mono hb5
  clear hbx4 hbw4 hsh4 hb5 HC1
  cases b2 with
  | false =>
    have HB : Hid (r = 13) := Lib.hid HR2.out
    clear HR2 HB2
    go_wp2_with fail
    go_ret
    exact ⟨by rw [HB.out]; rfl, hbw5⟩
  | true =>
  have HR3 : Hid (r = if opn.any (hasF hid) then 7 else noteE H U) := Lib.hid HR2.out
  have HRO := Lib.hid HB1.out.symm
  have HRH := Lib.hid HB2.out.symm
  clear HR2 HB1 HB2
  go_wp2_with fail
  go_loopw [6, 7] (fun sk si wr => ∃ i k : Nat, si = .int .i64 i ∧ sk = .int .i64 k ∧ i ≤ opn.length ∧ k ≤ hid.length ∧ Hid (∀ (h : i < opn.length) j (hj : j < hid.length), j < k → cmpF hid[j] opn[i] < 0) ∧ Hid ((opn.take i).any (hasF hid) = false) ∧ Below w5.heap.size w5 wr) (fun _ si _ => opn.length - (intOf si).toNat)
  case atStart => exact ⟨0, 0, rfl, rfl, Nat.zero_le _, Nat.zero_le _, Lib.hid (fun h j hj hjk => absurd hjk (Nat.not_lt_zero _)), Lib.hid rfl, Below.refl _ _⟩
  case round =>
    obtain ⟨i, k, rfl, rfl, hi, hk, HLO, HN, hbq⟩ := hrel
    have hbxq := hbx5.mono hbq
    have hbwq := below_step hbw5 hbq
    have p0 := hbxq.cell 0 rfl
    have pl := hbxq.lt
    by_cases hlt : i < opn.length
    · have HLO1 : Hid (∀ j (hj : j < hid.length), j < k → cmpF hid[j] opn[i] < 0) := Lib.hid (HLO.out hlt)
      have HNX : Hid (∀ j (hj : j < hid.length) (h : i + 1 < opn.length), cmpF hid[j] opn[i] < 0 → cmpF hid[j] opn[i + 1] < 0) := Lib.hid (fun j hj h hc => ord_cmpF.trans _ _ _ hc (rises_at HRO.out i (i + 1) h (by omega)))
      have HV := Lib.hid (anyT_yes (f := hasF hid) hlt)
      have HSC := Lib.hid (anyT_succ (f := hasF hid) hlt)
      rw [HN.out] at HSC
      obtain ⟨hxl, HOX⟩ : opn[i].path.length ≤ 9223372036854775807 ∧ True := ⟨(HO1.out _ (List.getElem_mem hlt)).2.2.1, trivial⟩
      have HXAT : Hid (∀ W, Below w5.heap.size w5 W → ∃ b o A3 c3, A0 = some ⟨b, o, none⟩ ∧ b < W.heap.size ∧ W.cell? ⟨b, o + i * 6, none⟩ = some (.int .i64 opn[i].kind) ∧ W.cell? ⟨b, o + i * 6 + 1, none⟩ = some (.string opn[i].plc.cls) ∧ W.cell? ⟨b, o + i * 6 + 2, none⟩ = some (.string opn[i].plc.mth) ∧ W.cell? ⟨b, o + i * 6 + 3, none⟩ = some (.int .i64 opn[i].plc.ins) ∧ W.cell? ⟨b, o + i * 6 + 4, none⟩ = some (.string opn[i].what) ∧ W.cell? ⟨b, o + i * 6 + 5, none⟩ = some (.slice A3 opn[i].path.length c3) ∧ Sl Lay.plc W A3 opn[i].path) := by
        show ∀ W, _
        intro W hW
        obtain ⟨b, o, A3, c3, e0, h1, d0, d1, d2, d3, d4, d5, hc3, hs3⟩ := (hs0.mono (below_step hbw5 hW)).fnd_at hlt
        exact ⟨b, o, A3, c3, e0, h1, d0, d1, d2, d3, d4, d5, hs3⟩
      generalize opn[i] = x at *
      clear HLO HN HOX
      obtain ⟨wo, rfl⟩ : ∃ wo : World, wo = wr := ⟨_, rfl⟩
      go_wp2_with fail
      go_loopw [6] (fun sk wr => ∃ k : Nat, sk = .int .i64 k ∧ k ≤ hid.length ∧ Hid (∀ j (hj : j < hid.length), j < k → cmpF hid[j] x < 0) ∧ Below w5.heap.size w5 wr) (fun sk _ => hid.length - (intOf sk).toNat)
      case atStart => exact ⟨k, rfl, hk, HLO1, hbq⟩
      case round =>
        clear HLO1 hbq hbxq hbwq p0 pl hk
        obtain ⟨k, rfl, hk, HLO, hbq⟩ := hrel
        have hbxq := hbx5.mono hbq
        have hbwq := below_step hbw5 hbq
        have p0 := hbxq.cell 0 rfl
        have pl := hbxq.lt
        by_cases hkl : k < hid.length
        · obtain ⟨b, o, A3, c3, rfl, h1, d0, d1, d2, d3, d4, d5, hs3⟩ := HXAT.out _ hbq
          obtain ⟨b', o', B3, e3, rfl, h2, f0, f1, f2, f3, f4, f5, hc4, hs4⟩ := (hsh5.mono hbq).fnd_at hkl
          have HC : Hid (∀ W, Below wr.heap.size wr W → Calls Tryz.prog 28 #[.agg #[.int .i64 hid[k].kind, .string hid[k].plc.cls, .string hid[k].plc.mth, .int .i64 hid[k].plc.ins, .string hid[k].what, .slice B3 hid[k].path.length e3], .agg #[.int .i64 x.kind, .string x.plc.cls, .string x.plc.mth, .int .i64 x.plc.ins, .string x.what, .slice A3 x.path.length c3]] W fun e w' => e = .returned (.int .i64 (cmpF hid[k] x)) ∧ Below W.heap.size W w') := fun W h => cmpF_ref hid[k] x B3 A3 e3 c3 W (HO2.out _ (List.getElem_mem hkl)).2.2.1 hxl (hs4.mono h) (hs3.mono h)
          have HM1 := Lib.hid (below_all (x := x) HRH.out hkl)
          have HM2 := Lib.hid (above_all (x := x) HRH.out hkl)
          have HAT := Lib.hid (fun hh => hasF_at (x := x) HRH.out HLO.out hh hkl)
          obtain ⟨g, HG⟩ : ∃ g, Hid (g = cmpF hid[k] x) := ⟨_, Lib.hid rfl⟩
          rw [← HG.out] at HC HM1 HM2 HAT
          clear HG
          by_cases hg : g < 0
          · have HLO2 := Lib.hid (HM1.out hg)
            clear HM1 HM2 HAT HLO
            go_wp2_with fail
            refine wp_region_later (by kernel_rfl) (by kernel_rfl) ?_
            repeat (go_big_quiet_step ((go_at_call 28; exact Calls.later (HC.out _ (by exact (by repeat (first | assumption | exact Below.refl _ _ | apply bw_alloc | apply bw_drew | apply bw_drewN | apply bw_later | apply bw_step)))))))
            refine wpQuiet_nil ?_
            rintro _ ⟨z, rfl⟩
            have hbq2 := below_step hbq z.h
            go_wp2_with fail
            go_roundw
            case rel => exact ⟨k + 1, by go_num, by omega, HLO2, hbq2⟩
            case measure => simp [intOf]; omega
          · have HE := Lib.hid (HAT.out (HM2.out hg))
            clear HAT HM1 HM2
            go_wp2_with fail
            refine wp_region_later (by kernel_rfl) (by kernel_rfl) ?_
            repeat (go_big_quiet_step ((go_at_call 28; exact Calls.later (HC.out _ (by exact (by repeat (first | assumption | exact Below.refl _ _ | apply bw_alloc | apply bw_drew | apply bw_drewN | apply bw_later | apply bw_step)))))))
            refine wpQuiet_nil ?_
            rintro _ ⟨z, rfl⟩
            have hbq2 := below_step hbq z.h
            go_wp2_with fail
            have hbx6 := hbx5.mono hbq2
            have hbw6 := below_step hbw5 hbq2
            obtain ⟨wz, hz⟩ : ∃ wz, wz = z.W := ⟨_, rfl⟩
            rw [← hz] at hbq2 hbx6 hbw6 ⊢
            have HC2 : Hid (∀ W, Below wz.heap.size wz W → Calls Tryz.prog 28 #[.agg #[.int .i64 hid[k].kind, .string hid[k].plc.cls, .string hid[k].plc.mth, .int .i64 hid[k].plc.ins, .string hid[k].what, .slice B3 hid[k].path.length e3], .agg #[.int .i64 x.kind, .string x.plc.cls, .string x.plc.mth, .int .i64 x.plc.ins, .string x.what, .slice A3 x.path.length c3]] W fun e w' => e = .returned (.int .i64 g) ∧ Below W.heap.size W w') := fun W h => HC.out W (by rw [hz] at h; exact below_step z.h h)
            have k0 : ∀ b o v, b < wr.heap.size → wr.cell? ⟨b, o, none⟩ = some v → wz.cell? ⟨b, o, none⟩ = some v := fun b o v h1 h2 => by rw [hz, z.h.cell h1]; exact h2
            have h1z : b < wz.heap.size := by rw [hz]; exact Nat.lt_of_lt_of_le h1 z.h.size
            have h2z : b' < wz.heap.size := by rw [hz]; exact Nat.lt_of_lt_of_le h2 z.h.size
            replace d0 := k0 _ _ _ h1 d0
            replace d1 := k0 _ _ _ h1 d1
            replace d2 := k0 _ _ _ h1 d2
            replace d3 := k0 _ _ _ h1 d3
            replace d4 := k0 _ _ _ h1 d4
            replace d5 := k0 _ _ _ h1 d5
            replace f0 := k0 _ _ _ h2 f0
            replace f1 := k0 _ _ _ h2 f1
            replace f2 := k0 _ _ _ h2 f2
            replace f3 := k0 _ _ _ h2 f3
            replace f4 := k0 _ _ _ h2 f4
            replace f5 := k0 _ _ _ h2 f5
            clear k0 hz p0 pl HC hs3 hs4 hbxq hbwq h1 h2 hbq
            clear z
            have p0 := hbx6.cell 0 rfl
            have pl := hbx6.lt
            by_cases hg0 : g = 0
            · have tg : (g == 0) = true := by simp [hg0]
              have HE2 : Hid (hasF hid x = true) := by show _ = _; rw [HE.out, decide_eq_true hg0]
              have HB : Hid (r = 7) := by show _ = _; rw [HR3.out, HV.out HE2.out]; rfl
              clear hg0 HE HE2 HV HSC HNX
              go_wp2_with fail
              refine wp_region_later (by kernel_rfl) (by kernel_rfl) ?_
              repeat (go_big_quiet_step ((go_at_call 28; exact Calls.later (HC2.out _ (by exact (by repeat (first | assumption | exact Below.refl _ _ | apply bw_alloc | apply bw_drew | apply bw_drewN | apply bw_later | apply bw_step)))))))
              refine wpQuiet_nil ?_
              rintro _ ⟨z, rfl⟩
              have hbw7 := below_step hbw6 z.h
              go_wp2_with fail
              go_ret
              exact ⟨by rw [HB.out]; rfl, hbw7⟩
            · have tg : (g == 0) = false := by simp [hg0]
              have HE2 : Hid (hasF hid x = false) := by show _ = _; rw [HE.out, decide_eq_false hg0]
              have HN2 : Hid ((opn.take (i + 1)).any (hasF hid) = false) := by show _ = _; rw [HSC.out, HE2.out]; rfl
              clear hg0 HE HE2 HV HSC
              go_wp2_with fail
              refine wp_region_later (by kernel_rfl) (by kernel_rfl) ?_
              repeat (go_big_quiet_step ((go_at_call 28; exact Calls.later (HC2.out _ (by exact (by repeat (first | assumption | exact Below.refl _ _ | apply bw_alloc | apply bw_drew | apply bw_drewN | apply bw_later | apply bw_step)))))))
              refine wpQuiet_nil ?_
              rintro _ ⟨z, rfl⟩
              have hbq3 := below_step hbq2 z.h
              go_wp2_with fail
              go_roundw
              case rel => exact ⟨i + 1, k, by go_num, rfl, by omega, hk, Lib.hid (fun h j hj hjk => HNX.out j hj h (HLO.out j hj hjk)), HN2, hbq3⟩
              case measure => simp [intOf]; omega
        · have HE := Lib.hid (hasF_end (x := x) (m := hid) (fun j hj => HLO.out j hj (by omega)))
          have HN2 : Hid ((opn.take (i + 1)).any (hasF hid) = false) := by show _ = _; rw [HSC.out, HE.out]; rfl
          clear HE HV HSC
          have hkk : ¬ (k : Int) < (hid.length : Int) := by omega
          go_wp2_with fail
          refine wp_region_later (by kernel_rfl) (by kernel_rfl) ?_
          repeat (go_big_quiet_step (fail))
          refine wpQuiet_nil ?_
          rintro _ ⟨z, rfl⟩
          have hbq2 := below_step hbq z.h
          go_wp2_with fail
          have hbx6 := hbx5.mono hbq2
          have p0z := hbx6.cell 0 rfl
          have plz := hbx6.lt
          go_wp2_with fail
          refine wp_region_later (by kernel_rfl) (by kernel_rfl) ?_
          repeat (go_big_quiet_step (fail))
          refine wpQuiet_nil ?_
          rintro _ ⟨y, rfl⟩
          have hbq3 := below_step hbq2 y.h
          go_wp2_with fail
          go_roundw
          case rel => exact ⟨i + 1, k, by go_num, rfl, by omega, hk, Lib.hid (fun h j hj hjk => HNX.out j hj h (HLO.out j hj hjk)), HN2, hbq3⟩
          case measure => simp [intOf]; omega
    · obtain rfl : i = opn.length := by omega
      rw [List.take_length] at HN
      have HR4 : Hid (r = noteE H U) := by show _ = _; rw [HR3.out, HN.out]; rfl
      clear HLO HN HR3
      go_wp2_with fail
      obtain ⟨wo, rfl⟩ : ∃ wo : World, wo = wr := ⟨_, rfl⟩
      go_loop [8] (fun i => ∃ k : Nat, k ≤ H.length ∧ i = .int .i64 k ∧ Hid ((H.take k).any (fun h => offB h.note) = false)) (fun i => H.length - (intOf i).toNat)
      case atStart => exact ⟨0, Nat.zero_le _, rfl, Lib.hid rfl⟩
      case round =>
        obtain ⟨k, hk, rfl, HN⟩ := hrel
        have p1 := hbxq.cell 1 rfl
        by_cases hlt : k < H.length
        · obtain ⟨b, o, A3, c3, rfl, h1, d0, d1, d2, d3, d4, d5, d6, hc3, hs3⟩ := (hs1.mono hbwq).hdn_at hlt
          have HA := Lib.hid (anyT_succ (f := fun h => offB h.note) hlt)
          have HV := Lib.hid (anyT_yes (f := fun h => offB h.note) hlt)
          obtain ⟨n, hn⟩ : ∃ n, n = H[k].note := ⟨_, rfl⟩
          rw [← hn] at HA HV d6
          clear hn
          by_cases g1 : n < 0
          · have HB : Hid (r = 4) := by
              show _ = _
              rw [HR4.out]
              unfold noteE noteBad
              rw [HV.out (by unfold offB; rw [decide_eq_true g1]; rfl)]
              rfl
            clear HA HV HN
            go_wp2_with fail
            go_ret
            exact ⟨by rw [HB.out]; rfl, hbwq⟩
          by_cases g2 : 200 ≤ n
          · have HB : Hid (r = 4) := by
              show _ = _
              rw [HR4.out]
              unfold noteE noteBad
              rw [HV.out (by unfold offB; rw [decide_eq_true g2, Bool.or_true])]
              rfl
            clear HA HV HN
            go_wp2_with fail
            go_ret
            exact ⟨by rw [HB.out]; rfl, hbwq⟩
          have HN2 : Hid ((H.take (k + 1)).any (fun h => offB h.note) = false) := by
            show _ = _
            rw [HA.out, HN.out]
            unfold offB
            rw [decide_eq_false g1, decide_eq_false g2]
            rfl
          clear HA HV HN
          go_wp2_with fail
          go_round
          case rel => exact ⟨k + 1, by omega, by go_num, HN2⟩
          case measure => simp [intOf]; omega
        · obtain rfl : k = H.length := by omega
          rw [List.take_length] at HN
          have HR5 : Hid (r = if unsBad U then 4 else if ascI U then (if hitU H U then 20 else 0) else 13) := by
            show _ = _
            rw [HR4.out]
            unfold noteE
            rw [show noteBad H = false from HN.out]
            rfl
          clear HR4 HN hk hlt
          go_wp2_with fail
          go_loop [9] (fun i => ∃ k : Nat, k ≤ U.length ∧ i = .int .i64 k ∧ Hid ((U.take k).any offB = false)) (fun i => U.length - (intOf i).toNat)
          case atStart => exact ⟨0, Nat.zero_le _, rfl, Lib.hid rfl⟩
          case round =>
            obtain ⟨k, hk, rfl, HN⟩ := hrel
            have p2 := hbxq.cell 2 rfl
            by_cases hlt : k < U.length
            · obtain ⟨b2, o2, rfl, h2, d0⟩ := (hs2.mono hbwq).int_at hlt
              have HA := Lib.hid (anyT_succ (f := offB) hlt)
              have HV := Lib.hid (anyT_yes (f := offB) hlt)
              obtain ⟨n, hn⟩ : ∃ n, n = U[k] := ⟨_, rfl⟩
              rw [← hn] at HA HV d0
              clear hn
              by_cases g1 : n < 0
              · have HB : Hid (r = 4) := by
                  show _ = _
                  rw [HR5.out]
                  unfold unsBad
                  rw [HV.out (by unfold offB; rw [decide_eq_true g1]; rfl)]
                  rfl
                clear HA HV HN
                go_wp2_with fail
                go_ret
                exact ⟨by rw [HB.out]; rfl, hbwq⟩
              by_cases g2 : 200 ≤ n
              · have HB : Hid (r = 4) := by
                  show _ = _
                  rw [HR5.out]
                  unfold unsBad
                  rw [HV.out (by unfold offB; rw [decide_eq_true g2, Bool.or_true])]
                  rfl
                clear HA HV HN
                go_wp2_with fail
                go_ret
                exact ⟨by rw [HB.out]; rfl, hbwq⟩
              have HN2 : Hid ((U.take (k + 1)).any offB = false) := by
                show _ = _
                rw [HA.out, HN.out]
                unfold offB
                rw [decide_eq_false g1, decide_eq_false g2]
                rfl
              clear HA HV HN
              go_wp2_with fail
              go_round
              case rel => exact ⟨k + 1, by omega, by go_num, HN2⟩
              case measure => simp [intOf]; omega
            · obtain rfl : k = U.length := by omega
              rw [List.take_length] at HN
              have HR6 : Hid (r = if ascI (U.drop 0) then (if hitU H U then 20 else 0) else 13) := by
                show _ = _
                rw [HR5.out, show unsBad U = false from HN.out]
                rfl
              clear HR5 HN hk hlt
              go_wp2_with fail
              go_loopw [10] (fun i wq => ∃ k : Nat, k ≤ U.length ∧ i = .int .i64 ((k : Int) + 1) ∧ Hid (r = if ascI (U.drop k) then (if hitU H U then 20 else 0) else 13) ∧ Below wo.heap.size wo wq) (fun i _ => U.length + 1 - (intOf i).toNat)
              case atStart => exact ⟨0, Nat.zero_le _, rfl, HR6, Below.refl _ _⟩
              case round =>
                clear HR6 p0 pl p1 p2
                obtain ⟨k, hk, rfl, HR, hbr⟩ := hrel
                have hbxr := hbxq.mono hbr
                have hbwr := below_step hbwq hbr
                have p2 := hbxr.cell 2 rfl
                have pl := hbxr.lt
                by_cases hlt : k + 1 < U.length
                · have hlt0 : k < U.length := by omega
                  obtain ⟨b2, o2, rfl, h2, d0⟩ := (hs2.mono hbwr).int_at hlt0
                  obtain ⟨b3, o3, e0, h3, d1⟩ := (hs2.mono hbwr).int_at hlt
                  obtain ⟨rfl, rfl⟩ : b2 = b3 ∧ o2 = o3 := by simpa using e0
                  have HS3 := Lib.hid (ascI_step hlt)
                  have i1 : ((k : Int) + 1 - 1) = (k : Int) := by omega
                  have g1 : ((k : Int) + 1 < (U.length : Int)) := by omega
                  obtain ⟨x, hx⟩ : ∃ x, x = U[k] := ⟨_, rfl⟩
                  obtain ⟨y, hy⟩ : ∃ y, y = U[k + 1] := ⟨_, rfl⟩
                  rw [← hx, ← hy] at HS3
                  rw [← hx] at d0
                  rw [← hy] at d1
                  clear hx hy e0
                  by_cases hg : x < y
                  · have HR2 : Hid (r = if ascI (U.drop (k + 1)) then (if hitU H U then 20 else 0) else 13) := by show _ = _; rw [HR.out, HS3.out, decide_eq_true hg, Bool.true_and]
                    have tg : ¬ y ≤ x := by omega
                    clear HR HS3
                    go_wp2_with fail
                    refine wp_region_later (by kernel_rfl) (by kernel_rfl) ?_
                    repeat (go_big_quiet_step (fail))
                    refine wpQuiet_nil ?_
                    rintro _ ⟨z, rfl⟩
                    have hbr2 := below_step hbr z.h
                    go_wp2_with fail
                    go_roundw
                    case rel => exact ⟨k + 1, by omega, by go_num, HR2, hbr2⟩
                    case measure => simp [intOf]; omega
                  · have HR2 : Hid (r = 13) := by show _ = _; rw [HR.out, HS3.out, decide_eq_false hg]; rfl
                    have tg : y ≤ x := by omega
                    clear HR HS3
                    go_wp2_with fail
                    refine wp_region_later (by kernel_rfl) (by kernel_rfl) ?_
                    repeat (go_big_quiet_step (fail))
                    refine wpQuiet_nil ?_
                    rintro _ ⟨z, rfl⟩
                    have hbr2 := below_step hbr z.h
                    go_wp2_with fail
                    go_ret
                    exact ⟨by rw [HR2.out]; rfl, below_step hbwq hbr2⟩
                · have HR7 : Hid (r = if (U.drop 0).any (hitN H) then 20 else 0) := by show _ = _; rw [HR.out, ascI_end (by omega)]; rfl
                  have g1 : ¬ ((k : Int) + 1 < (U.length : Int)) := by omega
                  clear HR hk hlt
                  go_wp2_with fail
                  go_loopw [11] (fun i wq => ∃ k : Nat, k ≤ U.length ∧ i = .int .i64 k ∧ Hid (r = if (U.drop k).any (hitN H) then 20 else 0) ∧ Below wo.heap.size wo wq) (fun i _ => U.length - (intOf i).toNat)
                  case atStart => exact ⟨0, Nat.zero_le _, rfl, HR7, hbr⟩
                  case round =>
                    clear HR7 g1 hbr p2 pl hbxr hbwr
                    obtain ⟨j, hj, rfl, HR, hbr⟩ := hrel
                    have hbxr := hbxq.mono hbr
                    have hbwr := below_step hbwq hbr
                    have p2 := hbxr.cell 2 rfl
                    have pl := hbxr.lt
                    by_cases hlt : j < U.length
                    · have HD : Hid ((U.drop j).any (hitN H) = (hitN H U[j] || (U.drop (j + 1)).any (hitN H))) := by show _ = _; rw [List.drop_eq_getElem_cons hlt]; rfl
                      have HUAT : Hid (∀ W, Below wo.heap.size wo W → ∃ b2 o2, A2 = some ⟨b2, o2, none⟩ ∧ b2 < W.heap.size ∧ W.cell? ⟨b2, o2 + j, none⟩ = some (.int .i64 U[j])) := Lib.hid (fun W hW => (hs2.mono (below_step hbwq hW)).int_at hlt)
                      generalize U[j] = n at *
                      have HD0 : Hid (hitN H n = (H.drop 0).any (fun h => h.note == n)) := rfl
                      generalize hitN H n = v at HD HD0
                      rw [HD.out] at HR
                      clear HD
                      obtain ⟨wp, rfl⟩ : ∃ wo : World, wo = wr := ⟨_, rfl⟩
                      go_wp2_with fail
                      go_loopw [12] (fun i wq => ∃ k : Nat, k ≤ H.length ∧ i = .int .i64 k ∧ Hid (v = (H.drop k).any (fun h => h.note == n)) ∧ Below wo.heap.size wo wq) (fun i _ => H.length - (intOf i).toNat)
                      case atStart => exact ⟨0, Nat.zero_le _, rfl, HD0, hbr⟩
                      case round =>
                        clear HD0 hbr p2 pl hbxr hbwr
                        obtain ⟨t, ht, rfl, HD, hbr⟩ := hrel
                        have hbxr := hbxq.mono hbr
                        have hbwr := below_step hbwq hbr
                        have p1 := hbxr.cell 1 rfl
                        have p2 := hbxr.cell 2 rfl
                        have pl := hbxr.lt
                        by_cases htl : t < H.length
                        · obtain ⟨b, o, A3, c3, rfl, h1, d0, d1, d2, d3, d4, d5, d6, hc3, hs3⟩ := (hs1.mono hbwr).hdn_at htl
                          obtain ⟨b2, o2, rfl, h2, f0⟩ := HUAT.out _ hbr
                          have HDS : Hid ((H.drop t).any (fun h => h.note == n) = ((H[t].note == n) || (H.drop (t + 1)).any (fun h => h.note == n))) := by show _ = _; rw [List.drop_eq_getElem_cons htl]; rfl
                          rw [HDS.out] at HD
                          clear HDS
                          by_cases he : H[t].note = n
                          · have te : (H[t].note == n) = true := by simp [he]
                            have HB : Hid (r = 20) := by show _ = _; rw [HR.out, HD.out, te]; rfl
                            clear HR HD he
                            go_wp2_with fail
                            refine wp_region_later (by kernel_rfl) (by kernel_rfl) ?_
                            repeat (go_big_quiet_step (fail))
                            refine wpQuiet_nil ?_
                            rintro _ ⟨z, rfl⟩
                            have hbr2 := below_step hbr z.h
                            go_wp2_with fail
                            go_ret
                            exact ⟨by rw [HB.out]; rfl, below_step hbwq hbr2⟩
                          · have te : (H[t].note == n) = false := by simp [he]
                            rw [te, Bool.false_or] at HD
                            clear he
                            go_wp2_with fail
                            refine wp_region_later (by kernel_rfl) (by kernel_rfl) ?_
                            repeat (go_big_quiet_step (fail))
                            refine wpQuiet_nil ?_
                            rintro _ ⟨z, rfl⟩
                            have hbr2 := below_step hbr z.h
                            go_wp2_with fail
                            go_roundw
                            case rel => exact ⟨t + 1, by omega, by go_num, HD, hbr2⟩
                            case measure => simp [intOf]; omega
                        · have HV0 : Hid (v = false) := by show _ = _; rw [HD.out, List.drop_eq_nil_of_le (by omega)]; rfl
                          have HR8 : Hid (r = if (U.drop (j + 1)).any (hitN H) then 20 else 0) := by show _ = _; rw [HR.out, HV0.out]; rfl
                          clear HR HD HV0
                          go_wp2_with fail
                          go_roundw
                          case rel => exact ⟨j + 1, by omega, by go_num, HR8, hbr⟩
                          case measure => simp [intOf]; omega
                    · have HR2 : Hid (r = 0) := by show _ = _; rw [HR.out, List.drop_eq_nil_of_le (by omega)]; rfl
                      clear HR
                      go_wp2_with fail
                      go_ret
                      exact ⟨by rw [HR2.out]; rfl, hbwr⟩
end Go.Proofs.YtlcdnkloijehjaaGreatDoor
