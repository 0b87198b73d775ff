/-
  Chapter 39: the text of a protocol, the reference's.
-/
import Derived.Test.YthabojhnliomnaaGreatDoorTxtD
import Derived.Test.YthabojhnliomnaaGreatDoorPolO
namespace Go.Proofs.YthabojhnliomnaaGreatDoor
open Go.RowKit
set_option linter.unusedVariables false

set_option maxRecDepth 100000 in
set_option maxHeartbeats 8000000 in
theorem refPtcText_v (p : Ptc) (A1 A4 : Option Addr) (c1 c4 : Nat) (w : World) (hv : Hid (PtcV p)) (hc1 : p.states.length ≤ c1) (hs1 : Sl Lay.str w A1 p.states) (hs4 : Sl Lay.mov w A4 p.moves) :
    Calls Tryz.prog 41 #[.agg #[.string p.cls, .slice A1 p.states.length c1, .int .i64 p.start, .int .i64 p.err, .slice A4 p.moves.length c4]] w fun e w' => RetTx (ptcT p) e ∧ Below w.heap.size w w' := by
  have HCH := Lib.hid (fun W h => refPtcCheck_any p A1 A4 c1 c4 W (Lib.hid hv.out.okPtc) hc1 (hs1.mono h) (hs4.mono h))
  rw [hv.out.ok] at HCH
  have HSZ := Lib.hid hv.out.sz
  have HMV := Lib.hid hv.out.mv
  have hcl := hv.out.cls
  have hlen := hv.out.len
  have hml := hv.out.mlen
  obtain ⟨sa, hsa, hsal⟩ := natOf hv.out.start
  obtain ⟨ea, hea, heal⟩ := natOf hv.out.err
  obtain ⟨R, HR⟩ : ∃ R, Hid (R = ptcT p) := ⟨_, Lib.hid rfl⟩
  rw [← HR.out]
  obtain ⟨cl, sts, st, er, mvs⟩ := p
  simp only at hcl hlen hml hsa hea hsal heal hc1 hs1 hs4 HCH HSZ HMV ⊢
  subst hsa hea
  obtain ⟨H1, HH1⟩ : ∃ H1 : List UInt8, Hid (H1 = wProto ++ toL cl ++ [10] ++ wStates) := ⟨_, Lib.hid rfl⟩
  obtain ⟨H2, HH2⟩ : ∃ H2 : List UInt8, Hid (H2 = H1 ++ sts.flatMap (fun s => 32 :: toL s) ++ [10] ++ wStart ++ toL sts[sa] ++ [10] ++ wError ++ toL sts[ea] ++ [10]) := ⟨_, Lib.hid rfl⟩
  have HHD : Hid (R = H2 ++ mvs.flatMap (fun m => moveT sts m ++ [10]) ++ wEnd) := by
    show _ = _
    rw [HR.out, HH2.out, HH1.out]
    unfold ptcT headT
    rw [stN_at rfl hsal, stN_at rfl heal, List.flatMap_append, List.flatMap_map]
    simp only [List.flatMap_cons, List.flatMap_nil, List.append_assoc, List.append_nil]
  clear HR
  have bx0 := Box.new w [.string cl, .slice A1 sts.length c1, .int .i64 sa, .int .i64 ea, .slice A4 mvs.length c4] 63
  have hb0 : Below w.heap.size w (w.alloc (.cells #[.string cl, .slice A1 sts.length c1, .int .i64 sa, .int .i64 ea, .slice A4 mvs.length c4] 63)) := (by repeat (first | assumption | exact Below.refl _ _ | apply bw_alloc | apply bw_drew | apply bw_drewN | apply bw_later | apply bw_step))
  go_enter Tryz.func41, Tryz.ntmps41
  go_wp2_with fail
  refine (HCH.out _ hb0).mono ?_
  rintro e w1 ⟨rfl, hb1⟩
  have bx1 := bx0.mono hb1
  have hbw1 := below_step hb0 hb1
  have hs11 := hs1.mono hbw1
  clear bx0 hb0 hb1 HCH
  obtain ⟨b, o, hA, hb, ds⟩ := hs11.str_at hsal
  obtain ⟨b', o', hA', hb', de⟩ := hs11.str_at heal
  subst hA
  injection hA' with hA'
  injection hA' with z1 z2
  subst z1 z2
  have hse := HSZ.out _ (List.getElem_mem hsal)
  have hee := HSZ.out _ (List.getElem_mem heal)
  have p0 := bx1.cell 0 rfl
  have p1 := bx1.cell 1 rfl
  have p2 := bx1.cell 2 rfl
  have p3 := bx1.cell 3 rfl
  have pl := bx1.lt
  have HS0 : Hid (toL (((⟨#[112, 114, 111, 116, 111, 99, 111, 108, 32]⟩ : ByteArray) ++ cl) ++ ⟨#[10, 115, 116, 97, 116, 101, 115]⟩) = H1 ++ (sts.take 0).flatMap (fun s => 32 :: toL s)) := by
    show _ = _
    rw [HH1.out]
    simp only [toL_app, List.take_zero, List.flatMap_nil, List.append_nil, List.append_assoc]
    rfl
  go_wp2_with fail
  go_loop [5, 6] (fun v5 i => ∃ (k : Nat) (t : ByteArray), k ≤ sts.length ∧ i = .int .i64 k ∧ v5 = .string t ∧ t.size ≤ 60 + 33 * k ∧ Hid (toL t = H1 ++ (sts.take k).flatMap (fun s => 32 :: toL s))) (fun _ i => sts.length - (intOf i).toNat)
  case atStart => exact ⟨0, _, Nat.zero_le _, rfl, rfl, by simp only [ByteArray.size_append, ByteArray.size_mk']; simp; omega, HS0⟩
  case round =>
    obtain ⟨k, t, hk, rfl, rfl, hts, HT⟩ := hrel
    by_cases hlt : k < sts.length
    · obtain ⟨b', o', hA', hb', d0⟩ := hs11.str_at hlt
      injection hA' with hA'
      injection hA' with z1 z2
      subst z1 z2
      have hsz := HSZ.out _ (List.getElem_mem hlt)
      have HN : Hid (toL ((t ++ ⟨#[32]⟩) ++ sts[k]) = H1 ++ (sts.take (k + 1)).flatMap (fun s => 32 :: toL s)) := by
        show _ = _
        rw [flat_take _ hlt]
        simp only [toL_app, HT.out, List.append_assoc]
        rfl
      have hns : ((t ++ ⟨#[32]⟩) ++ sts[k]).size ≤ 60 + 33 * (k + 1) := by simp only [ByteArray.size_append, ByteArray.size_mk']; simp; omega
      go_wp2_with fail
      go_round
      case rel => exact ⟨k + 1, _, by omega, by go_num, rfl, hns, HN⟩
      case measure => simp [intOf]; omega
    · obtain rfl : k = sts.length := by omega
      rw [List.take_length] at HT
      have hts2 : t.size ≤ 600 := by omega
      clear hts hk hlt
      obtain ⟨Y, HY⟩ : ∃ Y : ByteArray, Hid (((((t ++ ⟨#[10, 115, 116, 97, 114, 116, 32]⟩) ++ sts[sa]) ++ ⟨#[10, 101, 114, 114, 111, 114, 32]⟩) ++ sts[ea]) ++ ⟨#[10]⟩ = Y) := ⟨_, Lib.hid rfl⟩
      have hY : Y.size ≤ 1000 := by rw [← HY.out]; simp only [ByteArray.size_append, ByteArray.size_mk']; simp; omega
      have HYT : Hid (toL Y = H2 ++ (mvs.take 0).flatMap (fun m => moveT sts m ++ [10])) := by
        show _ = _
        rw [← HY.out, HH2.out]
        simp only [toL_app, HT.out, List.take_zero, List.flatMap_nil, List.append_nil, List.append_assoc]
        rfl
      go_wp2_with fail
      refine wp_region_later (by kernel_rfl) (by kernel_rfl) ?_
      repeat (go_big_quiet_step (fail))
      refine wpQuiet_nil ?_
      rintro _ ⟨x, rfl⟩
      rw [HY.out]
      have bxx := bx1.mono x.h
      have hbwx := below_step hbw1 x.h
      generalize x.W = wx at *
      clear p0 p1 p2 p3 pl ds de HT hts2 HY
      go_wp2_with fail
      go_loopw [5, 7] (fun v5 i wr => ∃ (k : Nat) (t : ByteArray), k ≤ mvs.length ∧ i = .int .i64 k ∧ v5 = .string t ∧ t.size ≤ 1000 + 110 * k ∧ Hid (toL t = H2 ++ (mvs.take k).flatMap (fun m => moveT sts m ++ [10])) ∧ Box wr w.heap.size [.string cl, .slice (some ⟨b, o, none⟩) sts.length c1, .int .i64 sa, .int .i64 ea, .slice A4 mvs.length c4] 63 ∧ Below w.heap.size w wr) (fun _ i _ => mvs.length - (intOf i).toNat)
      case atStart => exact ⟨0, Y, Nat.zero_le _, rfl, rfl, hY, HYT, bxx, hbwx⟩
      case round =>
        clear bxx hbwx HYT hY
        obtain ⟨k, t, hk, rfl, rfl, hts, HT, hbx, hbw⟩ := hrel
        have p4 := hbx.cell 4 rfl
        have pl := hbx.lt
        by_cases hlt : k < mvs.length
        · obtain ⟨b4, o4, rfl, hb4, d0, d1, d2⟩ := (hs4.mono hbw).mov_at hlt
          obtain ⟨v1, v2, v3⟩ := HMV.out k hlt
          obtain ⟨sx, hsx, hsxl⟩ := natOf v1
          obtain ⟨dx, hdx, hdxl⟩ := natOf v2
          have HMT : Hid (moveT sts mvs[k] = wMove ++ toL sts[sx] ++ [32] ++ toL mvs[k].mth ++ [32] ++ toL sts[dx]) := by show _ = _; unfold moveT; rw [stN_at hsx hsxl, stN_at hdx hdxl]
          rw [hsx] at d0
          rw [hdx] at d2
          clear v1 v2 hsx hdx
          have e1 := HSZ.out _ (List.getElem_mem hsxl)
          have e2 := HSZ.out _ (List.getElem_mem hdxl)
          have bm := Box.new wr [.int .i64 sx, .string mvs[k].mth, .int .i64 dx] 103
          have hbxa := hbx.alloc (.cells #[.int .i64 sx, .string mvs[k].mth, .int .i64 dx] 103)
          have hbwa : Below w.heap.size w (wr.alloc (.cells #[.int .i64 sx, .string mvs[k].mth, .int .i64 dx] 103)) := bw_alloc hbw
          go_upto_region 14 with fail
          generalize hW : World.alloc wr _ = w3 at *
          clear hW d0 d1 d2 p4 pl
          obtain ⟨b5, o5, hA5, hb5, ds⟩ := (hs1.mono hbwa).str_at hsxl
          obtain ⟨b6, o6, hA6, hb6, de⟩ := (hs1.mono hbwa).str_at hdxl
          injection hA5 with hA5
          injection hA5 with z1 z2
          subst z1 z2
          injection hA6 with hA6
          injection hA6 with z1 z2
          subst z1 z2
          have p1 := hbxa.cell 1 rfl
          have pl := hbxa.lt
          have m0 := bm.cell 0 rfl
          have m1 := bm.cell 1 rfl
          have m2 := bm.cell 2 rfl
          have ml := bm.lt
          have hts2 : t.size ≤ 100000 := by omega
          obtain ⟨Z, HZ⟩ : ∃ Z : ByteArray, Hid ((((((t ++ ⟨#[109, 111, 118, 101, 32]⟩) ++ sts[sx]) ++ ⟨#[32]⟩) ++ mvs[k].mth) ++ ⟨#[32]⟩) ++ sts[dx] ++ ⟨#[10]⟩ = Z) := ⟨_, Lib.hid rfl⟩
          have hZ : Z.size ≤ 1000 + 110 * (k + 1) := by rw [← HZ.out]; simp only [ByteArray.size_append, ByteArray.size_mk']; simp; omega
          have HZT : Hid (toL Z = H2 ++ (mvs.take (k + 1)).flatMap (fun m => moveT sts m ++ [10])) := by
            show _ = _
            rw [← HZ.out, flat_take _ hlt, HMT.out]
            simp only [toL_app, HT.out, List.append_assoc]
            rfl
          refine wp_region_later (by kernel_rfl) (by kernel_rfl) ?_
          repeat (go_big_quiet_step (fail))
          refine wpQuiet_nil ?_
          rintro _ ⟨x, rfl⟩
          rw [HZ.out]
          go_wp2_with fail
          go_roundw
          case rel => exact ⟨k + 1, Z, by omega, by go_num, rfl, hZ, HZT, hbxa.mono x.h, below_step hbwa x.h⟩
          case measure => simp [intOf]; omega
        · obtain rfl : k = mvs.length := by omega
          rw [List.take_length] at HT
          have hts2 : t.size ≤ 100000 := by omega
          have HE : Hid (toL (t ++ ⟨#[101, 110, 100, 10]⟩) = R) := by show _ = _; rw [HHD.out, toL_app, HT.out]; rfl
          go_wp2_with fail
          go_ret2
          exact ⟨retTx HE.out, hbw⟩
end Go.Proofs.YthabojhnliomnaaGreatDoor
