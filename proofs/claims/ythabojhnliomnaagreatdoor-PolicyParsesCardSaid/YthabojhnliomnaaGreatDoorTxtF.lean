/-
  Chapter 42: the text of a policy, the program's. (Printed by wip/gen/txtF.py.)
-/
import Derived.Test.YthabojhnliomnaaGreatDoorTxtD
import Derived.Test.YthabojhnliomnaaGreatDoorPolP
namespace Go.Proofs.YthabojhnliomnaaGreatDoor
open Go.RowKit
set_option linter.unusedVariables false

theorem polE_lens' {p : Pol} (h : (polE p).2 = 0) : p.rules.length ≤ 64 ∧ p.protocols.length ≤ 64 := by
  by_cases hl : 64 < p.rules.length ∨ 64 < p.protocols.length
  · rw [polE_long hl] at h
    exact absurd h (by decide)
  · omega
theorem acpT_len {x : Acp} (h : AcpV x) : (acpT x).length ≤ 100 := by
  have h1 := flat_len (fun f : ByteArray => 46 :: toL f) 33 x.fields (fun f hf => by rw [List.length_cons, toL_len]; have := h.sz f hf; omega)
  have h2 := h.len
  have h3 : (rootT x).length ≤ 10 := by
    unfold rootT
    split
    · rw [List.length_append, digit_small (by have := h.n6; omega)]; exact (by decide : 3 + 1 ≤ 10)
    · decide
  unfold acpT
  rw [List.length_append, List.length_append]
  have h4 : (if x.star then [42] else [] : List UInt8).length ≤ 1 := by split <;> decide
  unfold fldT
  omega
theorem wordS_len (k : Int) : (wordS k).size ≤ 9 := by
  unfold wordS
  split
  · decide
  split
  · decide
  split
  · decide
  · decide
theorem ruleT_len {x : Rul} (h : RulV x) : (ruleT x).length ≤ 250 := by
  unfold ruleT
  simp only [List.length_append, toL_len, List.length_cons, List.length_nil]
  have h1 := acpT_len h.pth
  have h2 := wordS_len x.kind
  have h3 := h.cls
  have h4 := h.mth
  have h5 := h.tag
  omega
theorem join5 {w : World} {b : Nat} {x0 x1 x2 x3 x4 : ByteArray} (hb : Box w b [.string x0, .string x1, .string x2, .string x3, .string x4] 9) (s0 : x0.size ≤ 100) (s1 : x1.size ≤ 100) (s2 : x2.size ≤ 100) (s3 : x3.size ≤ 100) (s4 : x4.size ≤ 100) :
    Calls Tryz.prog 34 #[.slice (some ⟨b, 0, none⟩) 5 5, .string ⟨#[32]⟩] w fun e w' => e = .returned (.string (bsOf (toL x0 ++ [32] ++ toL x1 ++ [32] ++ toL x2 ++ [32] ++ toL x3 ++ [32] ++ toL x4))) ∧ Below w.heap.size w w' := by
  have hj : Lib.join ([x0, x1, x2, x3, x4].map toL) (toL (⟨#[32]⟩ : ByteArray)) = toL x0 ++ [32] ++ toL x1 ++ [32] ++ toL x2 ++ [32] ++ toL x3 ++ [32] ++ toL x4 := by
    rw [show toL (⟨#[32]⟩ : ByteArray) = [32] from rfl, List.map_cons, Lib.join_cons, joinTail_flat]
    simp
  have hs : Sl Lay.str w (some ⟨b, 0, none⟩) [x0, x1, x2, x3, x4] := fun i x hx => by
    refine ⟨b, 0, [.string x], rfl, hb.lt, rfl, fun j v hj => ?_⟩
    have hj0 : j = 0 := by
      have := (List.getElem?_eq_some_iff.1 hj).1
      simp at this
      exact this
    subst hj0
    simp at hj
    subst hj
    rw [show (0 : Nat) + i * Lay.str.size + 0 = i by show 0 + i * 1 + 0 = i; omega]
    match i, hx with
    | 0, hx => simp at hx; subst hx; exact hb.cell 0 rfl
    | 1, hx => simp at hx; subst hx; exact hb.cell 1 rfl
    | 2, hx => simp at hx; subst hx; exact hb.cell 2 rfl
    | 3, hx => simp at hx; subst hx; exact hb.cell 3 rfl
    | 4, hx => simp at hx; subst hx; exact hb.cell 4 rfl
    | i + 5, hx => simp at hx
  have h := joinS 5 [x0, x1, x2, x3, x4] ⟨#[32]⟩ hs (by simp) (by simp) (by simp) (by rw [hj]; simp only [List.length_append, toL_len, List.length_cons, List.length_nil]; omega)
  rw [hj] at h
  exact h
def BldL (b : Nat) (l : List UInt8) (w : World) : Prop := Lib.IsBuilder 68 5 b b (Lib.byteCells l) w
theorem BldL.len {b : Nat} {l : List UInt8} {w : World} (h : BldL b l w) : Calls Tryz.prog 37 #[.pointer (some ⟨b, 0, none⟩)] w fun e w' => e = .returned (.int .i64 l.length) ∧ w = w' := by
  refine (Tryz.Builder_Len b b _ w h).mono fun e w' ⟨h1, h2⟩ => ⟨?_, h2.symm⟩
  rw [h1, Lib.byteCells_length]
theorem wrS {b : Nat} {l : List UInt8} {w : World} (s : ByteArray) (h : BldL b l w) (hl : l.length + s.size ≤ 100000000) (hb : b ≤ w.heap.size) :
    Calls Tryz.prog 33 #[.pointer (some ⟨b, 0, none⟩), .string s] w fun e w' => e = .returned (.tuple #[.int .i64 s.size, .nilIface]) ∧ BldL b (l ++ toL s) w' ∧ Below b w w' := by
  refine (writeString_any b b _ s w h (by rw [Lib.byteCells_length]; omega) hb).mono fun e w' ⟨h1, h2, h3⟩ => ⟨h1, Or.inr ?_, h3⟩
  rw [Lib.byteCells_append]
  exact h2
theorem wrN {b : Nat} {l : List UInt8} {w : World} (h : BldL b l w) (hl : l.length ≤ 100000000) (hb : b ≤ w.heap.size) :
    Calls Tryz.prog 35 #[.pointer (some ⟨b, 0, none⟩), .int .u8 10] w fun e w' => e = .returned .nilIface ∧ BldL b (l ++ [10]) w' ∧ Below b w w' := by
  refine (writeByte_any b b _ 10 w h (by rw [Lib.byteCells_length]; omega) hb).mono fun e w' ⟨h1, h2, h3⟩ => ⟨h1, Or.inr ?_, h3⟩
  rw [Lib.byteCells_append]
  exact h2
set_option maxRecDepth 100000 in
set_option maxHeartbeats 8000000 in
theorem polText_any (p : Pol) (A A2 : Option Addr) (c c2 : Nat) (w : World) (hok : Hid (OkPol p)) (hkw : KwX w) (hc2 : p.protocols.length ≤ c2) (hs : Sl Lay.rul w A p.rules) (hs2 : Sl Lay.ptc w A2 p.protocols) :
    Calls Tryz.prog 13 #[.agg #[.slice A p.rules.length c, .slice A2 p.protocols.length c2]] w fun e w' => e = .returned (.tuple #[.string (textR p).1, .int .i64 (textR p).2]) ∧ Below w.heap.size w w' := by
  obtain ⟨r, HR⟩ : ∃ r, Hid (r = textR p) := ⟨_, Lib.hid rfl⟩
  rw [← HR.out]
  have HRET : Hid (∀ (a : ByteArray) (b : Int), r = (a, b) → (Ending.returned (.tuple #[.string a, .int .i64 b]) = Ending.returned (.tuple #[.string r.1, .int .i64 r.2]))) := fun a b h => by rw [h]
  have HCK := Lib.hid (fun W h => polCheck_any p A A2 c c2 W hok (hkw.mono h) hc2 (hs.mono h) (hs2.mono h))
  have okp := Lib.hid hok.out.p
  obtain ⟨q, HQ⟩ : ∃ q, Hid (q = polE p) := ⟨_, Lib.hid rfl⟩
  rw [← HQ.out] at HCK
  obtain ⟨q1, q2⟩ := q
  simp only at HCK
  have HBAD : Hid (q2 ≠ 0 → r = (⟨#[]⟩, q2)) := fun h => by rw [HR.out, textR, if_pos (by rw [← HQ.out]; exact h), ← HQ.out]
  have HZ : Hid (q2 = 0 → (polE p).2 = 0) := fun h => by rw [← HQ.out]; exact h
  clear HQ
  have HLONG : Hid ((polE p).2 = 0 → 65536 < (polT p).length → r = (⟨#[]⟩, 3)) := fun h0 h => by rw [HR.out, textR, if_neg (by rw [h0]; simp), if_pos h]
  have HFINE : Hid ((polE p).2 = 0 → ¬ 65536 < (polT p).length → r = (bsOf (polT p), 0)) := fun h0 h => by rw [HR.out, textR, if_neg (by rw [h0]; simp), if_neg h]
  have HPT : Hid (polT p = p.rules.flatMap ruleT ++ p.protocols.flatMap ptcT) := rfl
  generalize polT p = PT at *
  clear HR
  obtain ⟨rs, ps⟩ := p
  simp only at hs hs2 hc2 ⊢
  have bx0 := Box.new w [.slice A rs.length c, .slice A2 ps.length c2] 25
  have hb0 : Below w.heap.size w (w.alloc (.cells #[.slice A rs.length c, .slice A2 ps.length c2] 25)) := (by repeat (first | assumption | exact Below.refl _ _ | apply bw_alloc | apply bw_drew | apply bw_drewN | apply bw_later | apply bw_step))
  go_enter Tryz.func13, Tryz.ntmps13
  go_wp2_with fail
  refine (HCK.out _ hb0).mono ?_
  rintro e w1 ⟨rfl, hb1⟩
  have bx1 := bx0.mono hb1
  have hbw1 := below_step hb0 hb1
  clear bx0 hb0 hb1 HCK
  by_cases hq : q2 = 0
  case neg =>
    have HB := Lib.hid (HBAD.out hq)
    have tq : (q2 != 0) = true := by simpa using hq
    clear hq
    go_wp2_with fail
    go_ret2
    exact ⟨HRET.out _ _ HB.out, hbw1⟩
  have HPZ := Lib.hid (HZ.out hq)
  have HLONG2 := Lib.hid (HLONG.out HPZ.out)
  have HFINE2 := Lib.hid (HFINE.out HPZ.out)
  subst hq
  obtain ⟨hrv, hpv⟩ := polE_okV HPZ.out
  have HRV := Lib.hid hrv
  have HPV := Lib.hid hpv
  have hln : rs.length ≤ 64 := (polE_lens' HPZ.out).1
  have hlm : ps.length ≤ 64 := (polE_lens' HPZ.out).2
  clear HBAD HZ hrv hpv HPZ HLONG HFINE
  have HRL : Hid (∀ k, ((rs.take k).flatMap ruleT).length ≤ 250 * 64) := fun k => by
    have h1 := flat_len ruleT 250 (rs.take k) (fun x hx => ruleT_len (HRV.out x (List.mem_of_mem_take hx)))
    have h2 : (rs.take k).length ≤ 64 := by rw [List.length_take]; omega
    have h3 := Nat.mul_le_mul_left 250 h2
    omega
  have HPL : Hid (∀ k, ((ps.take k).flatMap ptcT).length ≤ 40000 * 64) := fun k => by
    have h1 := flat_len ptcT 40000 (ps.take k) (fun x hx => ptcT_len (HPV.out x (List.mem_of_mem_take hx)))
    have h2 : (ps.take k).length ≤ 64 := by rw [List.length_take]; omega
    have h3 := Nat.mul_le_mul_left 40000 h2
    omega
  have hwb : w.heap.size < w1.heap.size := bx1.lt
  have bx2 := bx1.alloc (.cells #[.pointer none, .slice none 0 0] 68)
  have hbd2 : BldL w1.heap.size [] (w1.alloc (.cells #[.pointer none, .slice none 0 0] 68)) := Lib.fresh_isBuilder _ _ _
  have hbw2 : Below w.heap.size w (w1.alloc (.cells #[.pointer none, .slice none 0 0] 68)) := bw_alloc hbw1
  have hz2 : w1.heap.size ≤ (w1.alloc (.cells #[.pointer none, .slice none 0 0] 68)).heap.size := by simp
  have p0 := bx2.cell 0 rfl
  have pl := bx2.lt
  go_wp2_with fail
  generalize hW : World.alloc w1 _ = w2 at *
  clear hW p0 pl
  go_loopw [27] (fun i wr => ∃ k : Nat, k ≤ rs.length ∧ i = .int .i64 k ∧ BldL w1.heap.size ((rs.take k).flatMap ruleT) wr ∧ w1.heap.size ≤ wr.heap.size ∧ Box wr w.heap.size [.slice A rs.length c, .slice A2 ps.length c2] 25 ∧ Below w.heap.size w wr) (fun i _ => rs.length - (intOf i).toNat)
  case atStart => exact ⟨0, Nat.zero_le _, rfl, hbd2, hz2, bx2, hbw2⟩
  case round =>
    clear bx2 hbd2 hbw2 hz2 bx1
    obtain ⟨k, hk, rfl, hbd, hz, hbx, hbw⟩ := hrel
    have hrl := HRL.out k
    by_cases hlt : k < rs.length
    · obtain ⟨b, o, A5, c5, rfl, hb, d0, d1, d2, d3, d4, d5, d6, d7, hc5, hs5⟩ := (hs.mono hbw).rul_at hlt
      have hrv := HRV.out _ (List.getElem_mem hlt)
      have v1 := hrv.cls
      have v2 := hrv.mth
      have v3 := hrv.tag
      rcases hrv.kind with hkd | hkd | hkd
      · have HKW : Hid (wordS rs[k].kind = ⟨#[115, 111, 117, 114, 99, 101]⟩) := by show _ = _; rw [hkd]; rfl
        rw [hkd] at d0
        have bq := Box.new wr [.int .i64 1, .string rs[k].cls, .string rs[k].mth, .int .i64 rs[k].pth.root, .int .i64 rs[k].pth.n, .slice A5 rs[k].pth.fields.length c5, .bool rs[k].pth.star, .string rs[k].tag] 51
        have hbxa := hbx.alloc (.cells #[.int .i64 1, .string rs[k].cls, .string rs[k].mth, .int .i64 rs[k].pth.root, .int .i64 rs[k].pth.n, .slice A5 rs[k].pth.fields.length c5, .bool rs[k].pth.star, .string rs[k].tag] 51)
        have hbda := isBld_mono hbd (show Below wr.heap.size wr (wr.alloc (.cells #[.int .i64 1, .string rs[k].cls, .string rs[k].mth, .int .i64 rs[k].pth.root, .int .i64 rs[k].pth.n, .slice A5 rs[k].pth.fields.length c5, .bool rs[k].pth.star, .string rs[k].tag] 51)) from bw_alloc (Below.refl _ _))
        have hbwa : Below w.heap.size w (wr.alloc (.cells #[.int .i64 1, .string rs[k].cls, .string rs[k].mth, .int .i64 rs[k].pth.root, .int .i64 rs[k].pth.n, .slice A5 rs[k].pth.fields.length c5, .bool rs[k].pth.star, .string rs[k].tag] 51)) := bw_alloc hbw
        have hs5a := hs5.mono (show Below wr.heap.size wr (wr.alloc (.cells #[.int .i64 1, .string rs[k].cls, .string rs[k].mth, .int .i64 rs[k].pth.root, .int .i64 rs[k].pth.n, .slice A5 rs[k].pth.fields.length c5, .bool rs[k].pth.star, .string rs[k].tag] 51)) from bw_alloc (Below.refl _ _))
        have hza : wr.heap.size ≤ (wr.alloc (.cells #[.int .i64 1, .string rs[k].cls, .string rs[k].mth, .int .i64 rs[k].pth.root, .int .i64 rs[k].pth.n, .slice A5 rs[k].pth.fields.length c5, .bool rs[k].pth.star, .string rs[k].tag] 51)).heap.size := by simp
        clear hkd
        go_upto_region 8 with fail
        generalize hW : World.alloc wr _ = w3 at *
        clear hW d0 d1 d2 d3 d4 d5 d6 d7
        have r0 := bq.cell 0 rfl
        have r3 := bq.cell 3 rfl
        have r4 := bq.cell 4 rfl
        have r5 := bq.cell 5 rfl
        have r6 := bq.cell 6 rfl
        have rl := bq.lt
        go_wp2_with fail
        refine (acpText_v rs[k].pth A5 c5 _ (hkw.mono hbwa) (Lib.hid hrv.pth) hs5a).mono ?_
        rintro e w4 ⟨he, hb4⟩
        unfold RetTx at he
        subst he
        generalize hAT : bsOf (acpT rs[k].pth) = AT
        have HAT : Hid (toL AT = acpT rs[k].pth) := by show _ = _; rw [← hAT]; rfl
        clear hAT
        have hATs : AT.size ≤ 100 := by rw [← toL_len, HAT.out]; exact acpT_len hrv.pth
        have bq4 := bq.mono hb4
        have hbx4 := hbxa.mono hb4
        have hbd4 := isBld_mono hbda hb4
        have hbw4 := below_step hbwa hb4
        have hz4 := hb4.size
        clear r0 r3 r4 r5 r6 rl bq hbxa hbda hbwa
        have r1 := bq4.cell 1 rfl
        have r2 := bq4.cell 2 rfl
        have r7 := bq4.cell 7 rfl
        have rl := bq4.lt
        go_wp2_with fail
        generalize hW : World.alloc w4 _ = w5
        have hb45 : Below w4.heap.size w4 w5 := by rw [← hW]; exact (by repeat (first | assumption | exact Below.refl _ _ | apply bw_alloc | apply bw_drew | apply bw_drewN | apply bw_later | apply bw_step))
        have bxw : Box w5 w4.heap.size [.string ⟨#[115, 111, 117, 114, 99, 101]⟩, .string rs[k].cls, .string rs[k].mth, .string AT, .string rs[k].tag] 9 := by rw [← hW]; exact Box.new _ _ _
        clear hW
        obtain ⟨LN, hLN, HLN⟩ : ∃ LN : ByteArray, Hid (LN = bsOf (toL (⟨#[115, 111, 117, 114, 99, 101]⟩ : ByteArray) ++ [32] ++ toL rs[k].cls ++ [32] ++ toL rs[k].mth ++ [32] ++ toL AT ++ [32] ++ toL rs[k].tag)) ∧ Hid (toL LN ++ [10] = ruleT rs[k]) := ⟨_, Lib.hid rfl, by
          show _ = _
          unfold ruleT
          rw [HKW.out, HAT.out]
          rfl⟩
        have hLs : LN.size ≤ 300 := by
          have h := congrArg List.length HLN.out
          rw [List.length_append, toL_len] at h
          have := ruleT_len hrv
          simp only [List.length_cons, List.length_nil] at h
          omega
        have HJN : Hid (Calls Tryz.prog 34 #[.slice (some ⟨w4.heap.size, 0, none⟩) 5 5, .string ⟨#[32]⟩] w5 fun e w' => e = .returned (.string LN) ∧ Below w5.heap.size w5 w') := by
          have h := join5 bxw (by decide) (by omega) (by omega) hATs (by omega)
          rw [← hLN.out] at h
          exact h
        clear hLN HKW HAT
        refine HJN.out.mono ?_
        rintro e w6 ⟨rfl, hb6⟩
        have hb46 := below_step hb45 hb6
        have hbx6 := hbx4.mono hb46
        have hbd6 := isBld_mono hbd4 hb46
        have hbw6 := below_step hbw4 hb46
        have hz6 := hb46.size
        clear r1 r2 r7 rl
        go_wp2_with fail
        refine (wrS LN hbd6 (by omega) (by omega)).mono ?_
        rintro e w7 ⟨rfl, hbd7, hb7⟩
        have hbx7 := hbx6.below hwb hb7
        have hz7 := hb7.size
        go_wp2_with fail
        refine (wrN hbd7 (by rw [List.length_append, toL_len]; omega) (by omega)).mono ?_
        rintro e w8 ⟨rfl, hbd8, hb8⟩
        have hbx8 := hbx7.below hwb hb8
        have hz8 := hb8.size
        have hbw8 : Below w.heap.size w w8 := (hbw6.trans (hb7.mono (by omega))).trans (hb8.mono (by omega))
        rw [List.append_assoc, HLN.out, ← flat_take _ hlt] at hbd8
        go_wp2_with fail
        go_roundw
        case rel => exact ⟨k + 1, by omega, by go_num, hbd8, by omega, hbx8, hbw8⟩
        case measure => simp [intOf]; omega
      · have HKW : Hid (wordS rs[k].kind = ⟨#[115, 105, 110, 107]⟩) := by show _ = _; rw [hkd]; rfl
        rw [hkd] at d0
        have bq := Box.new wr [.int .i64 2, .string rs[k].cls, .string rs[k].mth, .int .i64 rs[k].pth.root, .int .i64 rs[k].pth.n, .slice A5 rs[k].pth.fields.length c5, .bool rs[k].pth.star, .string rs[k].tag] 51
        have hbxa := hbx.alloc (.cells #[.int .i64 2, .string rs[k].cls, .string rs[k].mth, .int .i64 rs[k].pth.root, .int .i64 rs[k].pth.n, .slice A5 rs[k].pth.fields.length c5, .bool rs[k].pth.star, .string rs[k].tag] 51)
        have hbda := isBld_mono hbd (show Below wr.heap.size wr (wr.alloc (.cells #[.int .i64 2, .string rs[k].cls, .string rs[k].mth, .int .i64 rs[k].pth.root, .int .i64 rs[k].pth.n, .slice A5 rs[k].pth.fields.length c5, .bool rs[k].pth.star, .string rs[k].tag] 51)) from bw_alloc (Below.refl _ _))
        have hbwa : Below w.heap.size w (wr.alloc (.cells #[.int .i64 2, .string rs[k].cls, .string rs[k].mth, .int .i64 rs[k].pth.root, .int .i64 rs[k].pth.n, .slice A5 rs[k].pth.fields.length c5, .bool rs[k].pth.star, .string rs[k].tag] 51)) := bw_alloc hbw
        have hs5a := hs5.mono (show Below wr.heap.size wr (wr.alloc (.cells #[.int .i64 2, .string rs[k].cls, .string rs[k].mth, .int .i64 rs[k].pth.root, .int .i64 rs[k].pth.n, .slice A5 rs[k].pth.fields.length c5, .bool rs[k].pth.star, .string rs[k].tag] 51)) from bw_alloc (Below.refl _ _))
        have hza : wr.heap.size ≤ (wr.alloc (.cells #[.int .i64 2, .string rs[k].cls, .string rs[k].mth, .int .i64 rs[k].pth.root, .int .i64 rs[k].pth.n, .slice A5 rs[k].pth.fields.length c5, .bool rs[k].pth.star, .string rs[k].tag] 51)).heap.size := by simp
        clear hkd
        go_upto_region 8 with fail
        generalize hW : World.alloc wr _ = w3 at *
        clear hW d0 d1 d2 d3 d4 d5 d6 d7
        have r0 := bq.cell 0 rfl
        have r3 := bq.cell 3 rfl
        have r4 := bq.cell 4 rfl
        have r5 := bq.cell 5 rfl
        have r6 := bq.cell 6 rfl
        have rl := bq.lt
        go_wp2_with fail
        refine (acpText_v rs[k].pth A5 c5 _ (hkw.mono hbwa) (Lib.hid hrv.pth) hs5a).mono ?_
        rintro e w4 ⟨he, hb4⟩
        unfold RetTx at he
        subst he
        generalize hAT : bsOf (acpT rs[k].pth) = AT
        have HAT : Hid (toL AT = acpT rs[k].pth) := by show _ = _; rw [← hAT]; rfl
        clear hAT
        have hATs : AT.size ≤ 100 := by rw [← toL_len, HAT.out]; exact acpT_len hrv.pth
        have bq4 := bq.mono hb4
        have hbx4 := hbxa.mono hb4
        have hbd4 := isBld_mono hbda hb4
        have hbw4 := below_step hbwa hb4
        have hz4 := hb4.size
        clear r0 r3 r4 r5 r6 rl bq hbxa hbda hbwa
        have r1 := bq4.cell 1 rfl
        have r2 := bq4.cell 2 rfl
        have r7 := bq4.cell 7 rfl
        have rl := bq4.lt
        go_wp2_with fail
        generalize hW : World.alloc w4 _ = w5
        have hb45 : Below w4.heap.size w4 w5 := by rw [← hW]; exact (by repeat (first | assumption | exact Below.refl _ _ | apply bw_alloc | apply bw_drew | apply bw_drewN | apply bw_later | apply bw_step))
        have bxw : Box w5 w4.heap.size [.string ⟨#[115, 105, 110, 107]⟩, .string rs[k].cls, .string rs[k].mth, .string AT, .string rs[k].tag] 9 := by rw [← hW]; exact Box.new _ _ _
        clear hW
        obtain ⟨LN, hLN, HLN⟩ : ∃ LN : ByteArray, Hid (LN = bsOf (toL (⟨#[115, 105, 110, 107]⟩ : ByteArray) ++ [32] ++ toL rs[k].cls ++ [32] ++ toL rs[k].mth ++ [32] ++ toL AT ++ [32] ++ toL rs[k].tag)) ∧ Hid (toL LN ++ [10] = ruleT rs[k]) := ⟨_, Lib.hid rfl, by
          show _ = _
          unfold ruleT
          rw [HKW.out, HAT.out]
          rfl⟩
        have hLs : LN.size ≤ 300 := by
          have h := congrArg List.length HLN.out
          rw [List.length_append, toL_len] at h
          have := ruleT_len hrv
          simp only [List.length_cons, List.length_nil] at h
          omega
        have HJN : Hid (Calls Tryz.prog 34 #[.slice (some ⟨w4.heap.size, 0, none⟩) 5 5, .string ⟨#[32]⟩] w5 fun e w' => e = .returned (.string LN) ∧ Below w5.heap.size w5 w') := by
          have h := join5 bxw (by decide) (by omega) (by omega) hATs (by omega)
          rw [← hLN.out] at h
          exact h
        clear hLN HKW HAT
        refine HJN.out.mono ?_
        rintro e w6 ⟨rfl, hb6⟩
        have hb46 := below_step hb45 hb6
        have hbx6 := hbx4.mono hb46
        have hbd6 := isBld_mono hbd4 hb46
        have hbw6 := below_step hbw4 hb46
        have hz6 := hb46.size
        clear r1 r2 r7 rl
        go_wp2_with fail
        refine (wrS LN hbd6 (by omega) (by omega)).mono ?_
        rintro e w7 ⟨rfl, hbd7, hb7⟩
        have hbx7 := hbx6.below hwb hb7
        have hz7 := hb7.size
        go_wp2_with fail
        refine (wrN hbd7 (by rw [List.length_append, toL_len]; omega) (by omega)).mono ?_
        rintro e w8 ⟨rfl, hbd8, hb8⟩
        have hbx8 := hbx7.below hwb hb8
        have hz8 := hb8.size
        have hbw8 : Below w.heap.size w w8 := (hbw6.trans (hb7.mono (by omega))).trans (hb8.mono (by omega))
        rw [List.append_assoc, HLN.out, ← flat_take _ hlt] at hbd8
        go_wp2_with fail
        go_roundw
        case rel => exact ⟨k + 1, by omega, by go_num, hbd8, by omega, hbx8, hbw8⟩
        case measure => simp [intOf]; omega
      · have HKW : Hid (wordS rs[k].kind = ⟨#[115, 97, 110, 105, 116, 105, 122, 101, 114]⟩) := by show _ = _; rw [hkd]; rfl
        rw [hkd] at d0
        have bq := Box.new wr [.int .i64 3, .string rs[k].cls, .string rs[k].mth, .int .i64 rs[k].pth.root, .int .i64 rs[k].pth.n, .slice A5 rs[k].pth.fields.length c5, .bool rs[k].pth.star, .string rs[k].tag] 51
        have hbxa := hbx.alloc (.cells #[.int .i64 3, .string rs[k].cls, .string rs[k].mth, .int .i64 rs[k].pth.root, .int .i64 rs[k].pth.n, .slice A5 rs[k].pth.fields.length c5, .bool rs[k].pth.star, .string rs[k].tag] 51)
        have hbda := isBld_mono hbd (show Below wr.heap.size wr (wr.alloc (.cells #[.int .i64 3, .string rs[k].cls, .string rs[k].mth, .int .i64 rs[k].pth.root, .int .i64 rs[k].pth.n, .slice A5 rs[k].pth.fields.length c5, .bool rs[k].pth.star, .string rs[k].tag] 51)) from bw_alloc (Below.refl _ _))
        have hbwa : Below w.heap.size w (wr.alloc (.cells #[.int .i64 3, .string rs[k].cls, .string rs[k].mth, .int .i64 rs[k].pth.root, .int .i64 rs[k].pth.n, .slice A5 rs[k].pth.fields.length c5, .bool rs[k].pth.star, .string rs[k].tag] 51)) := bw_alloc hbw
        have hs5a := hs5.mono (show Below wr.heap.size wr (wr.alloc (.cells #[.int .i64 3, .string rs[k].cls, .string rs[k].mth, .int .i64 rs[k].pth.root, .int .i64 rs[k].pth.n, .slice A5 rs[k].pth.fields.length c5, .bool rs[k].pth.star, .string rs[k].tag] 51)) from bw_alloc (Below.refl _ _))
        have hza : wr.heap.size ≤ (wr.alloc (.cells #[.int .i64 3, .string rs[k].cls, .string rs[k].mth, .int .i64 rs[k].pth.root, .int .i64 rs[k].pth.n, .slice A5 rs[k].pth.fields.length c5, .bool rs[k].pth.star, .string rs[k].tag] 51)).heap.size := by simp
        clear hkd
        go_upto_region 8 with fail
        generalize hW : World.alloc wr _ = w3 at *
        clear hW d0 d1 d2 d3 d4 d5 d6 d7
        have r0 := bq.cell 0 rfl
        have r3 := bq.cell 3 rfl
        have r4 := bq.cell 4 rfl
        have r5 := bq.cell 5 rfl
        have r6 := bq.cell 6 rfl
        have rl := bq.lt
        go_wp2_with fail
        refine (acpText_v rs[k].pth A5 c5 _ (hkw.mono hbwa) (Lib.hid hrv.pth) hs5a).mono ?_
        rintro e w4 ⟨he, hb4⟩
        unfold RetTx at he
        subst he
        generalize hAT : bsOf (acpT rs[k].pth) = AT
        have HAT : Hid (toL AT = acpT rs[k].pth) := by show _ = _; rw [← hAT]; rfl
        clear hAT
        have hATs : AT.size ≤ 100 := by rw [← toL_len, HAT.out]; exact acpT_len hrv.pth
        have bq4 := bq.mono hb4
        have hbx4 := hbxa.mono hb4
        have hbd4 := isBld_mono hbda hb4
        have hbw4 := below_step hbwa hb4
        have hz4 := hb4.size
        clear r0 r3 r4 r5 r6 rl bq hbxa hbda hbwa
        have r1 := bq4.cell 1 rfl
        have r2 := bq4.cell 2 rfl
        have r7 := bq4.cell 7 rfl
        have rl := bq4.lt
        go_wp2_with fail
        generalize hW : World.alloc w4 _ = w5
        have hb45 : Below w4.heap.size w4 w5 := by rw [← hW]; exact (by repeat (first | assumption | exact Below.refl _ _ | apply bw_alloc | apply bw_drew | apply bw_drewN | apply bw_later | apply bw_step))
        have bxw : Box w5 w4.heap.size [.string ⟨#[115, 97, 110, 105, 116, 105, 122, 101, 114]⟩, .string rs[k].cls, .string rs[k].mth, .string AT, .string rs[k].tag] 9 := by rw [← hW]; exact Box.new _ _ _
        clear hW
        obtain ⟨LN, hLN, HLN⟩ : ∃ LN : ByteArray, Hid (LN = bsOf (toL (⟨#[115, 97, 110, 105, 116, 105, 122, 101, 114]⟩ : ByteArray) ++ [32] ++ toL rs[k].cls ++ [32] ++ toL rs[k].mth ++ [32] ++ toL AT ++ [32] ++ toL rs[k].tag)) ∧ Hid (toL LN ++ [10] = ruleT rs[k]) := ⟨_, Lib.hid rfl, by
          show _ = _
          unfold ruleT
          rw [HKW.out, HAT.out]
          rfl⟩
        have hLs : LN.size ≤ 300 := by
          have h := congrArg List.length HLN.out
          rw [List.length_append, toL_len] at h
          have := ruleT_len hrv
          simp only [List.length_cons, List.length_nil] at h
          omega
        have HJN : Hid (Calls Tryz.prog 34 #[.slice (some ⟨w4.heap.size, 0, none⟩) 5 5, .string ⟨#[32]⟩] w5 fun e w' => e = .returned (.string LN) ∧ Below w5.heap.size w5 w') := by
          have h := join5 bxw (by decide) (by omega) (by omega) hATs (by omega)
          rw [← hLN.out] at h
          exact h
        clear hLN HKW HAT
        refine HJN.out.mono ?_
        rintro e w6 ⟨rfl, hb6⟩
        have hb46 := below_step hb45 hb6
        have hbx6 := hbx4.mono hb46
        have hbd6 := isBld_mono hbd4 hb46
        have hbw6 := below_step hbw4 hb46
        have hz6 := hb46.size
        clear r1 r2 r7 rl
        go_wp2_with fail
        refine (wrS LN hbd6 (by omega) (by omega)).mono ?_
        rintro e w7 ⟨rfl, hbd7, hb7⟩
        have hbx7 := hbx6.below hwb hb7
        have hz7 := hb7.size
        go_wp2_with fail
        refine (wrN hbd7 (by rw [List.length_append, toL_len]; omega) (by omega)).mono ?_
        rintro e w8 ⟨rfl, hbd8, hb8⟩
        have hbx8 := hbx7.below hwb hb8
        have hz8 := hb8.size
        have hbw8 : Below w.heap.size w w8 := (hbw6.trans (hb7.mono (by omega))).trans (hb8.mono (by omega))
        rw [List.append_assoc, HLN.out, ← flat_take _ hlt] at hbd8
        go_wp2_with fail
        go_roundw
        case rel => exact ⟨k + 1, by omega, by go_num, hbd8, by omega, hbx8, hbw8⟩
        case measure => simp [intOf]; omega
    · obtain rfl : k = rs.length := by omega
      rw [List.take_length] at hbd hrl
      have p1 := hbx.cell 1 rfl
      have pl := hbx.lt
      go_wp2_with fail
      clear p1 pl hk hlt
      obtain ⟨T1, HT1⟩ : ∃ T1 : List UInt8, Hid (T1 = rs.flatMap ruleT) := ⟨_, Lib.hid rfl⟩
      rw [← HT1.out] at hbd hrl
      obtain ⟨wo, rfl⟩ : ∃ wo : World, wo = wr := ⟨_, rfl⟩
      have hbd0 : BldL w1.heap.size (T1 ++ (ps.take 0).flatMap ptcT) wo := by rw [List.take_zero, List.flatMap_nil, List.append_nil]; exact hbd
      go_loopw [62] (fun i wr => ∃ k : Nat, k ≤ ps.length ∧ i = .int .i64 k ∧ BldL w1.heap.size (T1 ++ (ps.take k).flatMap ptcT) wr ∧ w1.heap.size ≤ wr.heap.size ∧ Box wr w.heap.size [.slice A rs.length c, .slice A2 ps.length c2] 25 ∧ Below w.heap.size w wr) (fun i _ => ps.length - (intOf i).toNat)
      case atStart => exact ⟨0, Nat.zero_le _, rfl, hbd0, hz, hbx, hbw⟩
      case round =>
        clear hbd hbd0 hz hbx hbw
        obtain ⟨k, hk, rfl, hbd, hz, hbx, hbw⟩ := hrel
        have hpl := HPL.out k
        by_cases hlt : k < ps.length
        · obtain ⟨b, o, A5, c5, A6, c6, rfl, hb, d0, d1, d2, d3, d4, hc5, hs5, hc6, hs6⟩ := (hs2.mono hbw).ptc_at hlt
          have hpv := HPV.out _ (List.getElem_mem hlt)
          have HTX : Hid (∀ W, Below wr.heap.size wr W → Calls Tryz.prog 36 #[.agg #[.string ps[k].cls, .slice A5 ps[k].states.length c5, .int .i64 ps[k].start, .int .i64 ps[k].err, .slice A6 ps[k].moves.length c6]] W fun e w' => RetTx (ptcT ps[k]) e ∧ Below W.heap.size W w') := fun W hW => ptcText_v ps[k] A5 A6 c5 c6 W (hkw.mono (below_step hbw hW)) (Lib.hid hpv) hc5 (hs5.mono hW) (hs6.mono hW)
          have hpl2 := ptcT_len hpv
          go_wp2_with fail
          refine (HTX.out _ (bw_alloc (Below.refl _ _))).mono ?_
          rintro e w4 ⟨he, hb4⟩
          unfold RetTx at he
          subst he
          generalize hAT : bsOf (ptcT ps[k]) = AT
          have HAT : Hid (toL AT = ptcT ps[k]) := by show _ = _; rw [← hAT]; rfl
          clear hAT d0 d1 d2 d3 d4
          have hATs : AT.size ≤ 40000 := by rw [← toL_len, HAT.out]; exact hpl2
          have hb04 := below_step (show Below wr.heap.size wr (wr.alloc _) from bw_alloc (Below.refl _ _)) hb4
          have hbx4 := hbx.mono hb04
          have hbd4 := isBld_mono hbd hb04
          have hbw4 := below_step hbw hb04
          have hz4 := hb04.size
          go_wp2_with fail
          refine (wrS AT hbd4 (by rw [List.length_append]; omega) (by omega)).mono ?_
          rintro e w7 ⟨rfl, hbd7, hb7⟩
          have hbx7 := hbx4.below hwb hb7
          have hz7 := hb7.size
          have hbw7 : Below w.heap.size w w7 := hbw4.trans (hb7.mono (by omega))
          rw [List.append_assoc, HAT.out, ← flat_take _ hlt] at hbd7
          go_wp2_with fail
          go_roundw
          case rel => exact ⟨k + 1, by omega, by go_num, hbd7, by omega, hbx7, hbw7⟩
          case measure => simp [intOf]; omega
        · obtain rfl : k = ps.length := by omega
          rw [List.take_length] at hbd
          have HPT2 : Hid (PT = T1 ++ ps.flatMap ptcT) := by show _ = _; rw [HPT.out, HT1.out]
          rw [← HPT2.out] at hbd
          have hPl : PT.length ≤ 5000000 := by
            have h := HPL.out ps.length
            rw [List.take_length] at h
            rw [HPT2.out, List.length_append]
            omega
          go_wp2_with fail
          refine hbd.len.mono ?_
          rintro e w8 ⟨rfl, rfl⟩
          by_cases hlong : 65536 < PT.length
          · have HB := Lib.hid (HLONG2.out hlong)
            go_wp2_with fail
            go_ret2
            exact ⟨HRET.out _ _ HB.out, hbw⟩
          · have HB := Lib.hid (HFINE2.out hlong)
            go_wp2_with fail
            refine (Tryz.Builder_String_any w1.heap.size w1.heap.size PT _ hbd (by omega)).mono ?_
            rintro e w10 ⟨rfl, hb10⟩
            go_wp2_with fail
            go_ret2
            exact ⟨HRET.out _ _ HB.out, hbw.trans (hb10.mono (by omega))⟩
end Go.Proofs.YthabojhnliomnaaGreatDoor
