/-
  Chapter 42: the text of a policy, the reference's; the law about texts.
-/
import Derived.Test.YthabojhnliomnaaGreatDoorTxtF
import Derived.Test.YthabojhnliomnaaGreatDoorTxtE
import Derived.Test.YthabojhnliomnaaGreatDoorPolQ
namespace Go.Proofs.YthabojhnliomnaaGreatDoor
open Go.RowKit
set_option linter.unusedVariables false

set_option maxRecDepth 100000 in
set_option maxHeartbeats 8000000 in
theorem refPolText_any (p : Pol) (A A2 : Option Addr) (c c2 : Nat) (w : World) (hok : Hid (OkPol p)) (hc2 : p.protocols.length ≤ c2) (hs : Sl Lay.rul w A p.rules) (hs2 : Sl Lay.ptc w A2 p.protocols) :
    Calls Tryz.prog 14 #[.agg #[.slice A p.rules.length c, .slice A2 p.protocols.length c2]] w fun e w' => e = .returned (.tuple #[.string (textR p).1, .int .i64 (textR p).2]) ∧ Below w.heap.size w w' := by
  obtain ⟨r, HR⟩ : ∃ r, Hid (r = textR p) := ⟨_, Lib.hid rfl⟩
  rw [← HR.out]
  have HRET : Hid (∀ (a : ByteArray) (b : Int), r = (a, b) → (Ending.returned (.tuple #[.string a, .int .i64 b]) = Ending.returned (.tuple #[.string r.1, .int .i64 r.2]))) := fun a b h => by rw [h]
  have HCK := Lib.hid (fun W h => refPolCheck_any p A A2 c c2 W hok hc2 (hs.mono h) (hs2.mono h))
  obtain ⟨q, HQ⟩ : ∃ q, Hid (q = polE p) := ⟨_, Lib.hid rfl⟩
  rw [← HQ.out] at HCK
  obtain ⟨q1, q2⟩ := q
  simp only at HCK
  have HBAD : Hid (q2 ≠ 0 → r = (⟨#[]⟩, q2)) := fun h => by rw [HR.out, textR, if_pos (by rw [← HQ.out]; exact h), ← HQ.out]
  have HZ : Hid (q2 = 0 → (polE p).2 = 0) := fun h => by rw [← HQ.out]; exact h
  clear HQ
  have HLONG : Hid ((polE p).2 = 0 → 65536 < (polT p).length → r = (⟨#[]⟩, 3)) := fun h0 h => by rw [HR.out, textR, if_neg (by rw [h0]; simp), if_pos h]
  have HFINE : Hid ((polE p).2 = 0 → ¬ 65536 < (polT p).length → r = (bsOf (polT p), 0)) := fun h0 h => by rw [HR.out, textR, if_neg (by rw [h0]; simp), if_neg h]
  have HPT : Hid (polT p = p.rules.flatMap ruleT ++ p.protocols.flatMap ptcT) := rfl
  generalize polT p = PT at *
  clear HR
  obtain ⟨rs, ps⟩ := p
  simp only at hs hs2 hc2 ⊢
  have bx0 := Box.new w [.slice A rs.length c, .slice A2 ps.length c2] 25
  have hb0 : Below w.heap.size w (w.alloc (.cells #[.slice A rs.length c, .slice A2 ps.length c2] 25)) := (by repeat (first | assumption | exact Below.refl _ _ | apply bw_alloc | apply bw_drew | apply bw_drewN | apply bw_later | apply bw_step))
  go_enter Tryz.func14, Tryz.ntmps14
  go_wp2_with fail
  refine (HCK.out _ hb0).mono ?_
  rintro e w1 ⟨rfl, hb1⟩
  have bx1 := bx0.mono hb1
  have hbw1 := below_step hb0 hb1
  clear bx0 hb0 hb1 HCK
  by_cases hq : q2 = 0
  case neg =>
    have HB := Lib.hid (HBAD.out hq)
    have tq : (q2 != 0) = true := by simpa using hq
    clear hq
    go_wp2_with fail
    go_ret2
    exact ⟨HRET.out _ _ HB.out, hbw1⟩
  have HPZ := Lib.hid (HZ.out hq)
  have HLONG2 := Lib.hid (HLONG.out HPZ.out)
  have HFINE2 := Lib.hid (HFINE.out HPZ.out)
  subst hq
  obtain ⟨hrv, hpv⟩ := polE_okV HPZ.out
  have HRV := Lib.hid hrv
  have HPV := Lib.hid hpv
  have hln : rs.length ≤ 64 := (polE_lens' HPZ.out).1
  have hlm : ps.length ≤ 64 := (polE_lens' HPZ.out).2
  clear HBAD HZ hrv hpv HPZ HLONG HFINE
  go_wp2_with fail
  go_loopw [6, 7] (fun v6 i wr => ∃ (k : Nat) (t : ByteArray), k ≤ rs.length ∧ i = .int .i64 k ∧ v6 = .string t ∧ t.size ≤ 250 * k ∧ Hid (toL t = (rs.take k).flatMap ruleT) ∧ Box wr w.heap.size [.slice A rs.length c, .slice A2 ps.length c2] 25 ∧ Below w.heap.size w wr) (fun _ i _ => rs.length - (intOf i).toNat)
  case atStart => exact ⟨0, ⟨#[]⟩, Nat.zero_le _, rfl, rfl, by decide, rfl, bx1, hbw1⟩
  case round =>
    clear bx1 hbw1
    obtain ⟨k, t, hk, rfl, rfl, hts, HT, hbx, hbw⟩ := hrel
    have p0 := hbx.cell 0 rfl
    have pl := hbx.lt
    by_cases hlt : k < rs.length
    · obtain ⟨b, o, A5, c5, rfl, hb, d0, d1, d2, d3, d4, d5, d6, d7, hc5, hs5⟩ := (hs.mono hbw).rul_at hlt
      have hrv := HRV.out _ (List.getElem_mem hlt)
      have v1 := hrv.cls
      have v2 := hrv.mth
      have v3 := hrv.tag
      have v4 := wordS_len rs[k].kind
      have bq := Box.new wr [.int .i64 rs[k].kind, .string rs[k].cls, .string rs[k].mth, .int .i64 rs[k].pth.root, .int .i64 rs[k].pth.n, .slice A5 rs[k].pth.fields.length c5, .bool rs[k].pth.star, .string rs[k].tag] 51
      have HTX : Hid (∀ W, Below wr.heap.size wr W → Calls Tryz.prog 39 #[.agg #[.int .i64 rs[k].pth.root, .int .i64 rs[k].pth.n, .slice A5 rs[k].pth.fields.length c5, .bool rs[k].pth.star]] W fun e w' => RetTx (acpT rs[k].pth) e ∧ Below W.heap.size W w') := fun W hW => refAcpText_v rs[k].pth A5 c5 W (Lib.hid hrv.pth) (hs5.mono hW)
      have hal := acpT_len hrv.pth
      go_wp2_with fail
      refine (HTX.out _ (bw_alloc (Below.refl _ _))).mono ?_
      rintro e w4 ⟨he, hb4⟩
      unfold RetTx at he
      subst he
      generalize hAT : bsOf (acpT rs[k].pth) = AT
      have HAT : Hid (toL AT = acpT rs[k].pth) := by show _ = _; rw [← hAT]; rfl
      clear hAT
      have hATs : AT.size ≤ 100 := by rw [← toL_len, HAT.out]; exact hal
      have bq4 := bq.mono hb4
      have hbx4 := (hbx.alloc _).mono hb4
      have hbw4 := below_step (bw_alloc hbw) hb4
      clear p0 pl d0 d1 d2 d3 d4 d5 d6 d7 bq HTX
      have r0 := bq4.cell 0 rfl
      have r1 := bq4.cell 1 rfl
      have r2 := bq4.cell 2 rfl
      have r7 := bq4.cell 7 rfl
      have rl := bq4.lt
      have hts2 : t.size ≤ 20000 := by omega
      have HW : Hid (∀ x : Later w4, Calls Tryz.prog 40 #[.int .i64 rs[k].kind] x.W fun e w' => e = .returned (.string (wordS rs[k].kind)) ∧ Below x.W.heap.size x.W w') := fun x => refWord_any _ _
      obtain ⟨Z, HZ⟩ : ∃ Z : ByteArray, Hid (t ++ (((((((((wordS rs[k].kind ++ ⟨#[32]⟩) ++ rs[k].cls) ++ ⟨#[32]⟩) ++ rs[k].mth) ++ ⟨#[32]⟩) ++ AT) ++ ⟨#[32]⟩) ++ rs[k].tag) ++ ⟨#[10]⟩) = Z) := ⟨_, Lib.hid rfl⟩
      have hZ : Z.size ≤ 250 * (k + 1) := by rw [← HZ.out]; simp only [ByteArray.size_append, ByteArray.size_mk']; simp; omega
      have HZT : Hid (toL Z = (rs.take (k + 1)).flatMap ruleT) := by
        show _ = _
        rw [← HZ.out, flat_take _ hlt]
        unfold ruleT
        simp only [toL_app, HT.out, HAT.out]
        rfl
      generalize wordS rs[k].kind = WS at *
      go_wp2_with fail
      refine wp_region_later (by kernel_rfl) (by kernel_rfl) ?_
      repeat (go_big_quiet_step (first | (go_at_call 40; exact Calls.later (HW.out _))))
      refine wpQuiet_nil ?_
      rintro _ ⟨x, rfl⟩
      rw [HZ.out]
      go_wp2_with fail
      go_roundw
      case rel => exact ⟨k + 1, Z, by omega, by go_num, rfl, hZ, HZT, hbx4.mono x.h, below_step hbw4 x.h⟩
      case measure => simp [intOf]; omega
    · obtain rfl : k = rs.length := by omega
      rw [List.take_length] at HT
      obtain ⟨T1, HT1⟩ : ∃ T1 : List UInt8, Hid (T1 = rs.flatMap ruleT) := ⟨_, Lib.hid rfl⟩
      have HS0 : Hid (toL t = T1 ++ (ps.take 0).flatMap ptcT) := by show _ = _; rw [HT.out, HT1.out, List.take_zero, List.flatMap_nil, List.append_nil]
      have hts2 : t.size ≤ 20000 := by omega
      go_wp2_with fail
      clear p0 pl hk hlt hts HT
      obtain ⟨wo, rfl⟩ : ∃ wo : World, wo = wr := ⟨_, rfl⟩
      go_loopw [6, 11] (fun v6 i wr => ∃ (k : Nat) (t : ByteArray), k ≤ ps.length ∧ i = .int .i64 k ∧ v6 = .string t ∧ t.size ≤ 20000 + 40000 * k ∧ Hid (toL t = T1 ++ (ps.take k).flatMap ptcT) ∧ Box wr w.heap.size [.slice A rs.length c, .slice A2 ps.length c2] 25 ∧ Below w.heap.size w wr) (fun _ i _ => ps.length - (intOf i).toNat)
      case atStart => exact ⟨0, t, Nat.zero_le _, rfl, rfl, hts2, HS0, hbx, hbw⟩
      case round =>
        clear HS0 hts2 hbx hbw
        obtain ⟨k, t, hk, rfl, rfl, hts, HT, hbx, hbw⟩ := hrel
        have p1 := hbx.cell 1 rfl
        have pl := hbx.lt
        by_cases hlt : k < ps.length
        · obtain ⟨b, o, A5, c5, A6, c6, rfl, hb, d0, d1, d2, d3, d4, hc5, hs5, hc6, hs6⟩ := (hs2.mono hbw).ptc_at hlt
          have hpv := HPV.out _ (List.getElem_mem hlt)
          have HTX : Hid (∀ W, Below wr.heap.size wr W → Calls Tryz.prog 41 #[.agg #[.string ps[k].cls, .slice A5 ps[k].states.length c5, .int .i64 ps[k].start, .int .i64 ps[k].err, .slice A6 ps[k].moves.length c6]] W fun e w' => RetTx (ptcT ps[k]) e ∧ Below W.heap.size W w') := fun W hW => refPtcText_v ps[k] A5 A6 c5 c6 W (Lib.hid hpv) hc5 (hs5.mono hW) (hs6.mono hW)
          have hpl2 := ptcT_len hpv
          go_wp2_with fail
          refine (HTX.out _ (Below.refl _ _)).mono ?_
          rintro e w4 ⟨he, hb4⟩
          unfold RetTx at he
          subst he
          generalize hAT : bsOf (ptcT ps[k]) = AT
          have HAT : Hid (toL AT = ptcT ps[k]) := by show _ = _; rw [← hAT]; rfl
          clear hAT d0 d1 d2 d3 d4
          have hATs : AT.size ≤ 40000 := by rw [← toL_len, HAT.out]; exact hpl2
          have hts2 : t.size ≤ 10000000 := by omega
          have hZ : (t ++ AT).size ≤ 20000 + 40000 * (k + 1) := by rw [ByteArray.size_append]; omega
          have HZT : Hid (toL (t ++ AT) = T1 ++ (ps.take (k + 1)).flatMap ptcT) := by show _ = _; rw [flat_take _ hlt, toL_app, HT.out, HAT.out, List.append_assoc]
          go_wp2_with fail
          go_roundw
          case rel => exact ⟨k + 1, _, by omega, by go_num, rfl, hZ, HZT, hbx.mono hb4, below_step hbw hb4⟩
          case measure => simp [intOf]; omega
        · obtain rfl : k = ps.length := by omega
          rw [List.take_length] at HT
          have HE : Hid (toL t = PT) := by show _ = _; rw [HT.out, HT1.out, HPT.out]
          have HSZE : Hid (t.size = PT.length) := by show _ = _; rw [← toL_len, HE.out]
          by_cases hlong : 65536 < t.size
          · have HB := Lib.hid (HLONG2.out (by rw [← HSZE.out]; exact hlong))
            go_wp2_with fail
            go_ret2
            exact ⟨HRET.out _ _ HB.out, hbw⟩
          · have HB := Lib.hid (HFINE2.out (by rw [← HSZE.out]; exact hlong))
            go_wp2_with fail
            go_ret2
            exact ⟨HRET.out _ _ (by rw [HB.out, ← bsOf_toL HE.out]), hbw⟩
set_option maxRecDepth 100000 in
set_option maxHeartbeats 2000000 in
theorem walk_PolicyTexts (p : Pol) (A A2 : Option Addr) (c c2 : Nat) (w : World) (hg : Glob w) (hok : Hid (OkPol p)) (hc2 : p.protocols.length ≤ c2) (hs : Sl Lay.rul w A p.rules) (hs2 : Sl Lay.ptc w A2 p.protocols) :
    Calls Tryz.prog 4 #[.agg #[.slice A p.rules.length c, .slice A2 p.protocols.length c2]] w fun e w' => e = .returned (.bool true) ∧ Below w.heap.size w w' := by
  have bx0 := Box.new w [.slice A p.rules.length c, .slice A2 p.protocols.length c2] 25
  have hb0 : Below w.heap.size w (w.alloc (.cells #[.slice A p.rules.length c, .slice A2 p.protocols.length c2] 25)) := (by repeat (first | assumption | exact Below.refl _ _ | apply bw_alloc | apply bw_drew | apply bw_drewN | apply bw_later | apply bw_step))
  have HA := Lib.hid (fun W h => polText_any p A A2 c c2 W hok (hg.mono h).kw hc2 (hs.mono h) (hs2.mono h))
  have HB := Lib.hid (fun W h => refPolText_any p A A2 c c2 W hok hc2 (hs.mono h) (hs2.mono h))
  generalize textR p = r at *
  obtain ⟨r1, r2⟩ := r
  have t1 : (r1.toList == r1.toList) = true := by simp
  have t2 : (r2 == r2) = true := by simp
  go_enter Tryz.func4, Tryz.ntmps4
  go_wp2_with fail
  refine (HA.out _ hb0).mono ?_
  rintro e w1 ⟨rfl, hb1⟩
  have bx1 := bx0.mono hb1
  have hbw1 := below_step hb0 hb1
  have p0 := bx1.cell 0 rfl
  have p1 := bx1.cell 1 rfl
  have pl := bx1.lt
  go_wp2_with fail
  refine (HB.out _ hbw1).mono ?_
  rintro e w2 ⟨rfl, hb2⟩
  have hbw2 := below_step hbw1 hb2
  go_wp2_with fail
  refine (awake_any _ (hg.mono hbw2)).mono ?_
  rintro e w3 ⟨rfl, hb3⟩
  go_wp2_with fail
  go_ret
  exact ⟨rfl, below_step hbw2 hb3⟩
end Go.Proofs.YthabojhnliomnaaGreatDoor
