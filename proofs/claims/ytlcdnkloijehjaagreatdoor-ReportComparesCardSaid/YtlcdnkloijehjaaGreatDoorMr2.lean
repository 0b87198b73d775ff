/-
  Joined (wip/merge.py): RepU, RepV, RepW, RepX, RepY, RepZ.
-/
import Derived.Test.YtlcdnkloijehjaaGreatDoorRepT
import Derived.Test.YtlcdnkloijehjaaGreatDoorRepQ
import Derived.Laws.EntriesVeiled
import Derived.Shelf.Abstract

namespace Go.Proofs.YtlcdnkloijehjaaGreatDoor
open Go.RowKit
set_option linter.unusedVariables false

/-- Builder bb holds l; block bl holds the closure that writes a line. -/
structure TxW (w0 : World) (bb bl : Nat) (l : List UInt8) (W : World) : Prop where
  bd : BldL bb l W
  bx : Box W bl [.func (.func 29) #[] #[.pointer (some ⟨bb, 0, none⟩)]] 66
  le : w0.heap.size ≤ bb
  bw : Below w0.heap.size w0 W
theorem TxW.mono {w0 W W' : World} {bb bl : Nat} {l : List UInt8} (h : TxW w0 bb bl l W) (hb : Below W.heap.size W W') : TxW w0 bb bl l W' :=
  ⟨h.bd.mono hb, h.bx.mono hb, h.le, below_step h.bw hb⟩
set_option maxHeartbeats 1000000 in
theorem line_any {w0 : World} {bb bl : Nat} {l : List UInt8} (ws : List ByteArray) (g : Nat) (W : World) (hT : TxW w0 bb bl l W) (hb : Box W g (ws.map Value.string) 9) (h0 : 0 < ws.length) (h1 : ws.length ≤ 10) (hz : (lineT (ws.map toL)).length ≤ 1000) (hl : l.length ≤ 1000000000000) :
    Calls Tryz.prog 29 #[.slice (some ⟨g, 0, none⟩) ws.length ws.length, .pointer (some ⟨bb, 0, none⟩)] W fun e w' => e = .returned (.tuple #[]) ∧ TxW w0 bb bl (l ++ lineT (ws.map toL)) w' ∧ Keeps W w' := by
  have hz' : (Lib.join (ws.map toL) [32]).length + 1 ≤ 1000 := by unfold lineT at hz; simpa using hz
  have HJ : Hid (∀ W', Below W.heap.size W W' → Calls Tryz.prog 31 #[.slice (some ⟨g, 0, none⟩) ws.length ws.length, .string ⟨#[32]⟩] W' fun e w' => e = .returned (.string (bsOf (Lib.join (ws.map toL) [32]))) ∧ Below W'.heap.size W' w') := fun W' h => by
    have := joinS (w := W') ws.length ws ⟨#[32]⟩ (hb.mono h).strs h0 (Nat.le_refl _) (by omega) (by show (Lib.join (ws.map toL) [32]).length ≤ _; omega)
    exact this
  have HQ : Hid (lineT (ws.map toL) = toL (bsOf (Lib.join (ws.map toL) [32])) ++ [10]) := rfl
  have hsz : (bsOf (Lib.join (ws.map toL) [32])).size ≤ 1000 := by rw [bsOf_size]; omega
  generalize bsOf (Lib.join (ws.map toL) [32]) = J at *
  rw [HQ.out]
  generalize ws.length = n at *
  clear hz hz' HQ hb h0 h1
  go_enter Tryz.func29, Tryz.ntmps29
  go_wp2_with fail
  refine (HJ.out _ (Below.refl _ _)).mono ?_
  rintro e w1 ⟨rfl, hb1⟩
  have hT1 := hT.mono hb1
  go_wp2_with fail
  refine (wrK J hT1.bd (by omega)).mono ?_
  rintro e w2 ⟨rfl, hd2, hb2, hk2⟩
  go_wp2_with fail
  refine (wrK ⟨#[10]⟩ hd2 (by rw [List.length_append, toL_len]; show _ + 1 ≤ _; omega)).mono ?_
  rintro e w3 ⟨rfl, hd3, hb3, hk3⟩
  rw [List.append_assoc] at hd3
  have hk23 := hk2.trans hk3
  have hb23 : Below w0.heap.size w1 w3 := (hb2.mono hT.le).trans (hb3.mono hT.le)
  go_wp2_with fail
  go_end0
  exact ⟨rfl, ⟨hd3, hk23.box (by decide) (by decide) hT1.bx, hT.le, hT1.bw.trans hb23⟩, (Keeps.below hb1).trans hk23⟩
def kindsL : List ByteArray := [⟨#[]⟩, ⟨#[117, 110, 115, 101, 116]⟩, ⟨#[115, 116, 97, 116, 101]⟩, ⟨#[116, 97, 105, 110, 116]⟩, ⟨#[98, 114, 97, 110, 99, 104]⟩]
def RetK (w w' : World) (e : Ending) : Prop := ∃ g, e = .returned (.slice (some ⟨g, 0, none⟩) 5 5) ∧ Box w' g (kindsL.map Value.string) 9 ∧ w.heap.size ≤ g
theorem kinds_any (W : World) : Calls Tryz.prog 35 #[] W fun e w' => RetK W w' e ∧ Below W.heap.size W w' := by
  go_enter Tryz.func35, Tryz.ntmps35
  go_wp2_with fail
  go_ret
  exact ⟨⟨_, rfl, Box.new _ _ _, Nat.le_refl _⟩, (by repeat (first | assumption | exact Below.refl _ _ | apply bw_alloc | apply bw_drew | apply bw_drewN | apply bw_later | apply bw_step))⟩
theorem fndH_line {f : Fnd} {K : ByteArray} (hK : toL K = kindW f.kind) (n : Nat) (hn : f.path.length = n) : lineT ([⟨#[102, 105, 110, 100, 105, 110, 103]⟩, K, f.plc.cls, f.plc.mth, bsOf (dg f.plc.ins), f.what, bsOf (dg n)].map toL) = fndH f := by
  unfold lineT fndH placeT wFnd
  rw [List.map_cons, Lib.join_cons, joinTail_flat]
  simp [hK, hn, toL_bsOf]
  rfl
theorem viaT_line (p : Plc) : lineT ([⟨#[118, 105, 97]⟩, p.cls, p.mth, bsOf (dg p.ins)].map toL) = viaT p := by
  unfold lineT viaT placeT wVia
  rw [List.map_cons, Lib.join_cons, joinTail_flat]
  simp [toL_bsOf]
  rfl
set_option maxHeartbeats 4000000 in
set_option maxRecDepth 100000 in
theorem write_any {w0 : World} {bb bl : Nat} {l : List UInt8} (f : Fnd) (A : Option Addr) (c : Nat) (W : World) (hg : Glo w0) (hT : TxW w0 bb bl l W) (hv : Hid (FndV f)) (hs : Sl Lay.plc w0 A f.path) (hl : l.length ≤ 500000000000) :
    Calls Tryz.prog 34 #[.agg #[.int .i64 f.kind, .string f.plc.cls, .string f.plc.mth, .int .i64 f.plc.ins, .string f.what, .slice A f.path.length c], .pointer (some ⟨bl, 0, none⟩)] W fun e w' => e = .returned (.tuple #[]) ∧ TxW w0 bb bl (l ++ fndT f) w' ∧ Keeps W w' := by
  have HPV := Lib.hid hv.out.path
  have hlen := hv.out.len
  have hH := fndH_len hv.out
  have hi0 := hv.out.plc.i0
  have hi1 := hv.out.plc.i1
  obtain ⟨K, m, hk, hm1, hm2, HK, hdk⟩ : ∃ (K : ByteArray) (m : Nat), f.kind = m ∧ 1 ≤ m ∧ m < 5 ∧ Hid (toL K = kindW f.kind) ∧ (∀ W' g, Box W' g (kindsL.map Value.string) 9 → W'.cell? ⟨g, m, none⟩ = some (.string K)) := by
    rcases hv.out.kind with e | e | e | e
    · exact ⟨_, 1, e, by omega, by omega, Lib.hid (by rw [e]; rfl), fun W' g h => h.cell 1 rfl⟩
    · exact ⟨_, 2, e, by omega, by omega, Lib.hid (by rw [e]; rfl), fun W' g h => h.cell 2 rfl⟩
    · exact ⟨_, 3, e, by omega, by omega, Lib.hid (by rw [e]; rfl), fun W' g h => h.cell 3 rfl⟩
    · exact ⟨_, 4, e, by omega, by omega, Lib.hid (by rw [e]; rfl), fun W' g h => h.cell 4 rfl⟩
  have HDK := Lib.hid hdk
  have HFL := Lib.hid (fndH_line HK.out f.path.length rfl)
  have HFT : Hid (fndT f = fndH f ++ f.path.flatMap viaT) := rfl
  rw [HFT.out]
  generalize fndH f = FH at *
  have HI1 := Lib.hid (fun W' h => itoa_any f.plc.ins W' ⟨by omega, by omega⟩ (hg.mono h))
  have HI2 := Lib.hid (fun W' h => itoa_any (f.path.length : Int) W' ⟨by omega, by omega⟩ (hg.mono h))
  generalize bsOf (dg f.plc.ins) = D1 at *
  generalize bsOf (dg (f.path.length : Int)) = D2 at *
  have HFLL : Hid ((lineT ([⟨#[102, 105, 110, 100, 105, 110, 103]⟩, K, f.plc.cls, f.plc.mth, D1, f.what, D2].map toL)).length ≤ 1000) := by show _ ≤ _; rw [HFL.out]; omega
  clear hv HFT HK hdk
  obtain ⟨fk, fp, fw, fl⟩ := f
  simp only at hk hs hlen hi0 hi1 HPV HI1 HI2 HFL HFLL ⊢
  subst hk
  have hbw := hT.bw
  generalize hW0 : (W.alloc (.cells #[.int .i64 m, .string fp.cls, .string fp.mth, .int .i64 fp.ins, .string fw, .slice A fl.length c] 46)).alloc (.cells #[.string fp.cls, .string fp.mth, .int .i64 fp.ins] 43) = W2
  have hb2 : Below W.heap.size W W2 := by rw [← hW0]; exact (by repeat (first | assumption | exact Below.refl _ _ | apply bw_alloc | apply bw_drew | apply bw_drewN | apply bw_later | apply bw_step))
  have bxf : Box W2 W.heap.size [.int .i64 m, .string fp.cls, .string fp.mth, .int .i64 fp.ins, .string fw, .slice A fl.length c] 46 := by rw [← hW0]; exact (Box.new _ _ _).alloc _
  have bxp : Box W2 (W.heap.size + 1) [.string fp.cls, .string fp.mth, .int .i64 fp.ins] 43 := by rw [← hW0]; exact Box.at (by simp)
  have hT2 := hT.mono hb2
  have t0 := hT2.bx.cell 0 rfl
  have tl := hT2.bx.lt
  have f0 := bxf.cell 0 rfl
  have f2 := bxf.cell 4 rfl
  have f3 := bxf.cell 5 rfl
  have fz := bxf.lt
  have q0 := bxp.cell 0 rfl
  have q1 := bxp.cell 1 rfl
  have q2 := bxp.cell 2 rfl
  have qz := bxp.lt
  have hm2' : (m : Int) < 5 := by omega
  go_enter Tryz.func34, Tryz.ntmps34
  go_upto_region 2 with fail
  clear hW0
  refine wp_region_RW 20 (by kernel_rfl) (by kernel_rfl) ?_
  refine RW.chunk (f := 6) [0, 2, 3, 6, 7, 8, 9, 10, 11, 13, 14, 15, 16, 17] (by kernel_rfl) ?_
  ((simp only [pickOps, List.filterMap, List.getElem?_toArray, List.getElem?_cons_zero, List.getElem?_cons_succ]); (repeat (go_big_quiet_step (fail))); refine wpQuiet_nil ?_)
  refine RW.single 1 rfl (by kernel_rfl) (by omega) ?_
  intro K2 hK2
  go_wp2_with fail
  refine (kinds_any _).mono ?_
  rintro e w3 ⟨⟨g, rfl, hbk, hgz⟩, hb3⟩
  go_wp2_with fail
  refine hK2 _ _ hb3 ?_
  clear hK2
  have dk := HDK.out _ _ hbk
  have gz := hbk.lt
  have hb3' : Below W2.heap.size W2 w3 := below_step (by exact (by repeat (first | assumption | exact Below.refl _ _ | apply bw_alloc | apply bw_drew | apply bw_drewN | apply bw_later | apply bw_step))) hb3
  refine RW.chunk (f := 3) [4, 5] (by kernel_rfl) ?_
  ((simp only [pickOps, List.filterMap, List.getElem?_toArray, List.getElem?_cons_zero, List.getElem?_cons_succ]); (repeat (go_big_quiet_step (fail))); refine wpQuiet_nil ?_)
  refine RW.single 12 rfl (by kernel_rfl) (by omega) ?_
  intro K2 hK2
  go_wp2_with fail
  refine (HI1.out _ (below_step hT2.bw hb3')).mono ?_
  rintro e w4 ⟨rfl, hb4⟩
  go_wp2_with fail
  refine hK2 _ _ hb4 ?_
  clear hK2
  have hb4' := below_step hb3' hb4
  refine RW.single 18 rfl (by kernel_rfl) (by omega) ?_
  intro K2 hK2
  go_wp2_with fail
  refine (HI2.out _ (below_step hT2.bw hb4')).mono ?_
  rintro e w5 ⟨rfl, hb5⟩
  go_wp2_with fail
  refine hK2 _ _ hb5 ?_
  clear hK2
  have hb5' := below_step hb4' hb5
  have hT5 := hT2.mono hb5'
  have bxf5 := bxf.mono hb5'
  have hK5 : Keeps W w5 := Keeps.below (below_step hb2 hb5')
  clear hT2 hb3' hb4' hb5' hb3 hb4 hb5 hbk dk gz t0 tl f0 f2 f3 fz q0 q1 q2 qz bxf bxp hT hb2 hbw HI1 HI2
  refine RW.single 19 rfl (by kernel_rfl) (by omega) ?_
  intro K2 hK2
  go_wp2_with fail
  refine hK2 _ _ (bw_alloc (Below.refl _ _)) ?_
  clear hK2
  (refine RW.tail (by kernel_rfl) ?_; (simp only [List.drop_succ_cons, List.drop_zero]))
  generalize hW : w5.alloc _ = w6
  have hb6 : Below w5.heap.size w5 w6 := by rw [← hW]; exact (by repeat (first | assumption | exact Below.refl _ _ | apply bw_alloc | apply bw_drew | apply bw_drewN | apply bw_later | apply bw_step))
  have bxw : Box w6 w5.heap.size ([⟨#[102, 105, 110, 100, 105, 110, 103]⟩, K, fp.cls, fp.mth, D1, fw, D2].map Value.string) 9 := by rw [← hW]; exact Box.new _ _ _
  clear hW
  have hT6 := hT5.mono hb6
  have HLN : Hid (Calls Tryz.prog 29 #[.slice (some ⟨w5.heap.size, 0, none⟩) 7 7, .pointer (some ⟨bb, 0, none⟩)] w6 fun e w' => e = .returned (.tuple #[]) ∧ TxW w0 bb bl (l ++ FH) w' ∧ Keeps w6 w') := by
    have h := line_any [⟨#[102, 105, 110, 100, 105, 110, 103]⟩, K, fp.cls, fp.mth, D1, fw, D2] w5.heap.size w6 hT6 bxw (by simp) (by simp) HFLL.out (by omega)
    rw [HFL.out] at h
    exact h
  go_wp2_with fail
  refine HLN.out.mono ?_
  rintro e w7 ⟨rfl, hT7, hK7⟩
  have hK7' := (hK5.trans (Keeps.below hb6)).trans hK7
  have bxf7 := hK7.box (by decide) (by decide) (bxf5.mono hb6)
  clear HLN hT5 hT6 hb6 bxw hK5 hK7 bxf5 HFL HFLL HDK
  have f3 := bxf7.cell 5 rfl
  have fz := bxf7.lt
  go_wp2_with fail
  have HLL : Hid (∀ k, (l ++ FH ++ (fl.take k).flatMap viaT).length ≤ 900000000000) := fun k => by
    have h1 := flat_len viaT 92 (fl.take k) (fun x hx => viaT_len (HPV.out x (List.mem_of_mem_take hx)))
    have h2 : (fl.take k).length ≤ 4097 := by rw [List.length_take]; omega
    have h3 := Nat.mul_le_mul_left 92 h2
    rw [List.length_append, List.length_append]
    omega
  go_loopw [32] (fun i wr => ∃ k : Nat, k ≤ fl.length ∧ i = .int .i64 k ∧ TxW w0 bb bl (l ++ FH ++ (fl.take k).flatMap viaT) wr ∧ Keeps W wr) (fun i _ => fl.length - (intOf i).toNat)
  case atStart => exact ⟨0, Nat.zero_le _, rfl, by rw [List.take_zero, List.flatMap_nil, List.append_nil]; exact hT7, hK7'⟩
  case round =>
    clear hT7 hK7' bxf7 f3 fz
    obtain ⟨k, hk, rfl, hT, hK⟩ := hrel
    by_cases hlt : k < fl.length
    · obtain ⟨b, o, rfl, h1, d0, d1, d2⟩ := (hs.mono hT.bw).plc_at hlt
      have HPX := HPV.out _ (List.getElem_mem hlt)
      have hi0 := HPX.i0
      have hi1 := HPX.i1
      have HI := Lib.hid (fun W' h => itoa_any fl[k].ins W' ⟨by omega, by omega⟩ (hg.mono h))
      have HVL := Lib.hid (viaT_line fl[k])
      have HFK := Lib.hid (flat_take viaT hlt)
      have hvl := viaT_len HPX
      have hll := HLL.out k
      generalize viaT fl[k] = VT at *
      generalize bsOf (dg fl[k].ins) = D at *
      have HVLL : Hid ((lineT ([⟨#[118, 105, 97]⟩, fl[k].cls, fl[k].mth, D].map toL)).length ≤ 1000) := by show _ ≤ _; rw [HVL.out]; omega
      generalize fl[k] = p at *
      clear HPX
      generalize hW0 : wr.alloc (.cells #[.string p.cls, .string p.mth, .int .i64 p.ins] 43) = W2
      have hb2 : Below wr.heap.size wr W2 := by rw [← hW0]; exact (by repeat (first | assumption | exact Below.refl _ _ | apply bw_alloc | apply bw_drew | apply bw_drewN | apply bw_later | apply bw_step))
      have bxp : Box W2 wr.heap.size [.string p.cls, .string p.mth, .int .i64 p.ins] 43 := by rw [← hW0]; exact Box.new _ _ _
      have hT2 := hT.mono hb2
      have t0 := hT2.bx.cell 0 rfl
      have tl := hT2.bx.lt
      have q0 := bxp.cell 0 rfl
      have q1 := bxp.cell 1 rfl
      have q2 := bxp.cell 2 rfl
      have qz := bxp.lt
      go_upto_region 6 with fail
      clear hW0
      refine wp_region_RW 9 (by kernel_rfl) (by kernel_rfl) ?_
      refine RW.chunk (f := 2) [0, 1, 2, 3, 4, 5, 6] (by kernel_rfl) ?_
      ((simp only [pickOps, List.filterMap, List.getElem?_toArray, List.getElem?_cons_zero, List.getElem?_cons_succ]); (repeat (go_big_quiet_step (fail))); refine wpQuiet_nil ?_)
      refine RW.single 7 rfl (by kernel_rfl) (by omega) ?_
      intro K2 hK2
      go_wp2_with fail
      refine (HI.out _ (below_step hT2.bw (by exact (by repeat (first | assumption | exact Below.refl _ _ | apply bw_alloc | apply bw_drew | apply bw_drewN | apply bw_later | apply bw_step))))).mono ?_
      rintro e w4 ⟨rfl, hb4⟩
      go_wp2_with fail
      refine hK2 _ _ hb4 ?_
      clear hK2
      have hb4' : Below W2.heap.size W2 w4 := below_step (by exact (by repeat (first | assumption | exact Below.refl _ _ | apply bw_alloc | apply bw_drew | apply bw_drewN | apply bw_later | apply bw_step))) hb4
      have hT5 := hT2.mono hb4'
      have hK5 := hK.trans (Keeps.below (below_step hb2 hb4'))
      clear t0 tl q0 q1 q2 qz bxp hT2 hb4 hb4' hb2 HI
      refine RW.single 8 rfl (by kernel_rfl) (by omega) ?_
      intro K2 hK2
      go_wp2_with fail
      refine hK2 _ _ (bw_alloc (Below.refl _ _)) ?_
      clear hK2
      (refine RW.tail (by kernel_rfl) ?_; (simp only [List.drop_succ_cons, List.drop_zero]))
      generalize hW : w4.alloc _ = w6
      have hb6 : Below w4.heap.size w4 w6 := by rw [← hW]; exact (by repeat (first | assumption | exact Below.refl _ _ | apply bw_alloc | apply bw_drew | apply bw_drewN | apply bw_later | apply bw_step))
      have bxw : Box w6 w4.heap.size ([⟨#[118, 105, 97]⟩, p.cls, p.mth, D].map Value.string) 9 := by rw [← hW]; exact Box.new _ _ _
      clear hW
      have hT6 := hT5.mono hb6
      have HLN : Hid (Calls Tryz.prog 29 #[.slice (some ⟨w4.heap.size, 0, none⟩) 4 4, .pointer (some ⟨bb, 0, none⟩)] w6 fun e w' => e = .returned (.tuple #[]) ∧ TxW w0 bb bl (l ++ FH ++ (fl.take (k + 1)).flatMap viaT) w' ∧ Keeps w6 w') := by
        have h := line_any [⟨#[118, 105, 97]⟩, p.cls, p.mth, D] w4.heap.size w6 hT6 bxw (by simp) (by simp) HVLL.out (by omega)
        rw [HVL.out, List.append_assoc, ← HFK.out] at h
        exact h
      go_wp2_with fail
      refine HLN.out.mono ?_
      rintro e w7 ⟨rfl, hT7, hK7⟩
      have hK7' := (hK5.trans (Keeps.below hb6)).trans hK7
      clear HLN hT5 hT6 hb6 bxw hK5 hK7
      go_wp2_with fail
      go_roundw
      case rel => exact ⟨k + 1, by omega, by go_num, hT7, hK7'⟩
      case measure => simp [intOf]; omega
    · obtain rfl : k = fl.length := by omega
      rw [List.take_length, List.append_assoc] at hT
      go_wp2_with fail
      go_end0
      exact ⟨rfl, hT, hK⟩
end Go.Proofs.YtlcdnkloijehjaaGreatDoor

namespace Go.Proofs.YtlcdnkloijehjaaGreatDoor
open Go.RowKit
set_option linter.unusedVariables false

theorem range_flat {α : Type} (f : α → List UInt8) : ∀ l : List α, (List.range l.length).flatMap (fun i => (l[i]?).elim [] f) = l.flatMap f
  | [] => rfl
  | x :: l => by
    rw [List.length_cons, List.range_succ_eq_map, List.flatMap_cons, List.flatMap_cons, List.flatMap_map, ← range_flat f l]
    rfl
theorem range_snoc (e : Nat → List UInt8) (k : Nat) : (List.range (k + 1)).flatMap e = (List.range k).flatMap e ++ e k := by
  rw [List.range_succ, List.flatMap_append]
  simp
theorem range_len (e : Nat → List UInt8) (m : Nat) : ∀ n, (∀ i, i < n → (e i).length ≤ m) → ((List.range n).flatMap e).length ≤ m * n
  | 0, _ => by simp
  | n + 1, h => by
    rw [range_snoc, List.length_append, Nat.mul_succ]
    have h1 := range_len e m n (fun i hi => h i (by omega))
    have h2 := h n (by omega)
    omega
/-- What one element's closure does. -/
def SecEl (w0 : World) (bb bl : Nat) (W0 : World) (g : FuncId) (cb : Array Value) (n : Nat) (el : Nat → List UInt8) : Prop :=
  ∀ i, i < n → ∀ (l : List UInt8) (W : World), l.length ≤ 400000000000 → TxW w0 bb bl l W → Keeps W0 W →
    Calls Tryz.prog g (#[.int .i64 i] ++ cb) W fun e w' => e = .returned (.tuple #[]) ∧ TxW w0 bb bl (l ++ el i) w' ∧ Keeps W w'
theorem head_line (nm : ByteArray) (n : Nat) : lineT ([nm, bsOf (dg n)].map toL) = headL (toL nm) n := by
  show lineT [toL nm, dg n] = _
  rw [lineT_two]
  rfl
set_option maxHeartbeats 4000000 in
theorem section_any {w0 : World} {bb bl : Nat} {l : List UInt8} (g : FuncId) (cb : Array Value) (eg : ∀ args w, (callFunc g args).run Tryz.prog w = .ok (.enter g args) w) (nm : ByteArray) (n : Nat) (el : Nat → List UInt8) (W : World) (hg : Glo w0) (hT : TxW w0 bb bl l W) (hn : n ≤ 1000) (hnm : nm.size ≤ 10)
    (hel : Hid (SecEl w0 bb bl W g cb n el)) (hez : Hid (∀ i, i < n → (el i).length ≤ 500000)) (hl : l.length ≤ 100000000000) :
    Calls Tryz.prog 32 #[.string nm, .int .i64 n, .func (.func g) #[] cb, .pointer (some ⟨bl, 0, none⟩)] W fun e w' => e = .returned (.tuple #[]) ∧ TxW w0 bb bl (l ++ headL (toL nm) n ++ (List.range n).flatMap el) w' ∧ Keeps W w' := by
  have HI := Lib.hid (fun W' h => itoa_any (n : Int) W' ⟨by omega, by omega⟩ (hg.mono h))
  have HH := Lib.hid (head_line nm n)
  have hdl := dg_len (n := (n : Int)) (by omega) (by omega)
  have hhl : (headL (toL nm) n).length ≤ 100 := by
    unfold headL
    simp only [List.length_append, toL_len, List.length_cons, List.length_nil]
    omega
  clear hdl
  generalize bsOf (dg (n : Int)) = D at *
  generalize headL (toL nm) n = HL at *
  have HHL : Hid ((lineT ([nm, D].map toL)).length ≤ 1000) := by show _ ≤ _; rw [HH.out]; omega
  have hbw := hT.bw
  have t0 := hT.bx.cell 0 rfl
  have tl := hT.bx.lt
  go_enter Tryz.func32, Tryz.ntmps32
  go_wp2_with fail
  refine wp_region_RW 5 (by kernel_rfl) (by kernel_rfl) ?_
  refine RW.chunk (f := 2) [0, 1, 2] (by kernel_rfl) ?_
  ((simp only [pickOps, List.filterMap, List.getElem?_toArray, List.getElem?_cons_zero, List.getElem?_cons_succ]); (repeat (go_big_quiet_step (fail))); refine wpQuiet_nil ?_)
  refine RW.single 3 rfl (by kernel_rfl) (by omega) ?_
  intro K2 hK2
  go_wp2_with fail
  refine (HI.out _ (below_step hbw (by exact (by repeat (first | assumption | exact Below.refl _ _ | apply bw_alloc | apply bw_drew | apply bw_drewN | apply bw_later | apply bw_step))))).mono ?_
  rintro e w4 ⟨rfl, hb4⟩
  go_wp2_with fail
  refine hK2 _ _ hb4 ?_
  clear hK2
  have hb4' : Below W.heap.size W w4 := below_step (by exact (by repeat (first | assumption | exact Below.refl _ _ | apply bw_alloc | apply bw_drew | apply bw_drewN | apply bw_later | apply bw_step))) hb4
  have hT4 := hT.mono hb4'
  clear t0 tl hbw hT hb4 HI
  refine RW.single 4 rfl (by kernel_rfl) (by omega) ?_
  intro K2 hK2
  go_wp2_with fail
  refine hK2 _ _ (bw_alloc (Below.refl _ _)) ?_
  clear hK2
  (refine RW.tail (by kernel_rfl) ?_; (simp only [List.drop_succ_cons, List.drop_zero]))
  generalize hW : w4.alloc _ = w6
  have hb6 : Below w4.heap.size w4 w6 := by rw [← hW]; exact (by repeat (first | assumption | exact Below.refl _ _ | apply bw_alloc | apply bw_drew | apply bw_drewN | apply bw_later | apply bw_step))
  have bxw : Box w6 w4.heap.size ([nm, D].map Value.string) 9 := by rw [← hW]; exact Box.new _ _ _
  clear hW
  have hT6 := hT4.mono hb6
  have HLN : Hid (Calls Tryz.prog 29 #[.slice (some ⟨w4.heap.size, 0, none⟩) 2 2, .pointer (some ⟨bb, 0, none⟩)] w6 fun e w' => e = .returned (.tuple #[]) ∧ TxW w0 bb bl (l ++ HL) w' ∧ Keeps w6 w') := by
    have h := line_any [nm, D] w4.heap.size w6 hT6 bxw (by simp) (by simp) HHL.out (by omega)
    rw [HH.out] at h
    exact h
  go_wp2_with fail
  refine HLN.out.mono ?_
  rintro e w7 ⟨rfl, hT7, hK7⟩
  have hK7' : Keeps W w7 := ((Keeps.below hb4').trans (Keeps.below hb6)).trans hK7
  clear HLN hT4 hT6 hb6 bxw hK7 HH HHL hb4'
  have HLL : Hid (∀ k, k ≤ n → (l ++ HL ++ (List.range k).flatMap el).length ≤ 400000000000) := fun k hk => by
    have h1 := range_len el 500000 k (fun i hi => hez.out i (by omega))
    have h3 := Nat.mul_le_mul_left 500000 hk
    rw [List.length_append, List.length_append]
    omega
  go_wp2_with fail
  go_loopw [15] (fun i wr => ∃ k : Nat, k ≤ n ∧ i = .int .i64 k ∧ TxW w0 bb bl (l ++ HL ++ (List.range k).flatMap el) wr ∧ Keeps W wr) (fun i _ => n - (intOf i).toNat)
  case atStart => exact ⟨0, Nat.zero_le _, rfl, by rw [List.range_zero, List.flatMap_nil, List.append_nil]; exact hT7, hK7'⟩
  case round =>
    clear hT7 hK7'
    obtain ⟨k, hk, rfl, hT, hK⟩ := hrel
    by_cases hlt : k < n
    · have HE := Lib.hid (hel.out k hlt _ wr (HLL.out k hk) hT hK)
      have HS := Lib.hid (range_snoc el k)
      go_wp2_with fail
      refine HE.out.mono ?_
      rintro e w7 ⟨rfl, hT7, hK7⟩
      rw [List.append_assoc, ← HS.out] at hT7
      have hK7' := hK.trans hK7
      clear HE HS hK7
      go_wp2_with fail
      go_roundw
      case rel => exact ⟨k + 1, by omega, by go_num, hT7, hK7'⟩
      case measure => simp [intOf]; omega
    · obtain rfl : k = n := by omega
      go_wp2_with fail
      go_end0
      exact ⟨rfl, hT, hK⟩
end Go.Proofs.YtlcdnkloijehjaaGreatDoor

namespace Go.Proofs.YtlcdnkloijehjaaGreatDoor
open Go.RowKit
set_option linter.unusedVariables false

theorem note_line (n : Int) : lineT ([⟨#[110, 111, 116, 101]⟩, bsOf (dg n)].map toL) = noteT n := by
  show lineT [wNote, dg n] = _
  rw [lineT_two]
  rfl
theorem idx_line (n : Int) : lineT ([⟨#[105, 110, 100, 101, 120]⟩, bsOf (dg n)].map toL) = idxT n := by
  show lineT [wIdx, dg n] = _
  rw [lineT_two]
  rfl
theorem noteT_len {n : Int} (h0 : 0 ≤ n) (h1 : n < 200) : (noteT n).length ≤ 50 := by
  have := dg_len (n := n) (by omega) (by omega)
  unfold noteT wNote
  simp only [List.length_append, List.length_cons, List.length_nil]
  omega
theorem idxT_len {n : Int} (h0 : 0 ≤ n) (h1 : n < 200) : (idxT n).length ≤ 50 := by
  have := dg_len (n := n) (by omega) (by omega)
  unfold idxT wIdx
  simp only [List.length_append, List.length_cons, List.length_nil]
  omega
theorem hdnT_len {h : Hdn} (hv : FndV h.f) (h0 : 0 ≤ h.note) (h1 : h.note < 200) : (hdnT h).length ≤ 450000 := by
  have h2 := fndT_len hv
  have h3 := noteT_len h0 h1
  unfold hdnT
  rw [List.length_append]
  omega
set_option maxHeartbeats 2000000 in
theorem elemO {w0 W0 : World} {bb bl bw rb : Nat} {cs : List Value} (opn : List Fnd) (A : Option Addr) (c : Nat) (hg : Glo w0) (hbx : Box W0 bw [.func (.func 34) #[] #[.pointer (some ⟨bl, 0, none⟩)]] 71)
    (hr : Box w0 rb (.slice A opn.length c :: cs) 26) (hs : Sl Lay.fnd w0 A opn) (hv : Hid (∀ f ∈ opn, FndV f)) (hn : opn.length ≤ 1000) :
    SecEl w0 bb bl W0 36 #[.pointer (some ⟨bw, 0, none⟩), .pointer (some ⟨rb, 0, none⟩)] opn.length (fun i => (opn[i]?).elim [] fndT) := by
  intro i hi l W hl hT hK
  have HEL : Hid ((opn[i]?).elim [] fndT = fndT opn[i]) := by show _ = _; rw [List.getElem?_eq_getElem hi]; rfl
  show Calls _ _ #[.int .i64 i, .pointer (some ⟨bw, 0, none⟩), .pointer (some ⟨rb, 0, none⟩)] W (fun e w' => e = .returned (.tuple #[]) ∧ TxW w0 bb bl (l ++ (opn[i]?).elim [] fndT) w' ∧ Keeps W w')
  rw [HEL.out]
  have hbxW := hK.box (by decide) (by decide) hbx
  have hrW := hr.mono hT.bw
  obtain ⟨b, o, A3, c3, rfl, h1, d0, d1, d2, d3, d4, d5, hc3, hs3⟩ := (hs.mono hT.bw).fnd_at hi
  have hs30 : Sl Lay.plc w0 A3 opn[i].path := by
    obtain ⟨b', o', A3', c3', e0, g1, g0, g2, g3, g4, g5, g6, gc3, gs3⟩ := hs.fnd_at hi
    injection e0 with e0
    injection e0 with z1 z2
    subst z1 z2
    rw [← hT.bw.cell g1, d5] at g6
    injection g6 with g6
    injection g6 with z1 z2 z3
    rw [z1]
    exact gs3
  have HC := Lib.hid (fun W' (h : TxW w0 bb bl l W') => write_any opn[i] A3 c3 W' hg h (Lib.hid (hv.out _ (List.getElem_mem hi))) hs30 (by omega))
  generalize opn[i] = f at *
  have q0 := hbxW.cell 0 rfl
  have qz := hbxW.lt
  have r0 := hrW.cell 0 rfl
  have rz := hrW.lt
  have hi' : (i : Int) < (opn.length : Int) := by omega
  go_enter Tryz.func36, Tryz.ntmps36
  go_wp2_with fail
  refine wp_region_RW 6 (by kernel_rfl) (by kernel_rfl) ?_
  refine RW.chunk (f := 0) [0, 1, 2, 3, 4, 5] (by kernel_rfl) ?_
  ((simp only [pickOps, List.filterMap, List.getElem?_toArray, List.getElem?_cons_zero, List.getElem?_cons_succ]); (repeat (go_big_quiet_step (fail))); refine wpQuiet_nil ?_)
  (refine RW.tail (by kernel_rfl) ?_; (simp only [List.drop_succ_cons, List.drop_zero]))
  go_wp2_with fail
  refine (HC.out _ (hT.mono (Below.refl _ _).drew)).mono ?_
  rintro e w7 ⟨rfl, hT7, hK7⟩
  go_wp2_with fail
  go_end0
  exact ⟨rfl, hT7, (Keeps.below (Below.refl _ _).drew).trans hK7⟩
set_option maxHeartbeats 4000000 in
theorem elemH {w0 W0 : World} {bb bl bw rb : Nat} {v0 : Value} {cs : List Value} (H : List Hdn) (A : Option Addr) (c : Nat) (hg : Glo w0) (hbx : Box W0 bw [.func (.func 34) #[] #[.pointer (some ⟨bl, 0, none⟩)]] 71)
    (hr : Box w0 rb (v0 :: .slice A H.length c :: cs) 26) (hs : Sl Lay.hdn w0 A H) (hv : Hid (∀ h ∈ H, FndV h.f)) (hvn : Hid (∀ h ∈ H, 0 ≤ h.note ∧ h.note < 200)) (hn : H.length ≤ 1000) :
    SecEl w0 bb bl W0 37 #[.pointer (some ⟨bl, 0, none⟩), .pointer (some ⟨rb, 0, none⟩), .pointer (some ⟨bw, 0, none⟩)] H.length (fun i => (H[i]?).elim [] hdnT) := by
  intro i hi l W hl hT hK
  have HEL : Hid ((H[i]?).elim [] hdnT = noteT H[i].note ++ fndT H[i].f) := by show _ = _; rw [List.getElem?_eq_getElem hi]; rfl
  show Calls _ _ #[.int .i64 i, .pointer (some ⟨bl, 0, none⟩), .pointer (some ⟨rb, 0, none⟩), .pointer (some ⟨bw, 0, none⟩)] W (fun e w' => e = .returned (.tuple #[]) ∧ TxW w0 bb bl (l ++ (H[i]?).elim [] hdnT) w' ∧ Keeps W w')
  rw [HEL.out]
  clear HEL
  obtain ⟨n0, n1⟩ := hvn.out _ (List.getElem_mem hi)
  obtain ⟨b, o, A3, c3, rfl, h1, d0, d1, d2, d3, d4, d5, d6, hc3, hs3⟩ := hs.hdn_at hi
  have HC := Lib.hid (fun l' W' (h : TxW w0 bb bl l' W') hl => write_any H[i].f A3 c3 W' hg h (Lib.hid (hv.out _ (List.getElem_mem hi))) hs3 hl)
  have HI := Lib.hid (fun W' h => itoa_any H[i].note W' ⟨by omega, by omega⟩ (hg.mono h))
  have HNL := Lib.hid (note_line H[i].note)
  have hnl := noteT_len n0 n1
  generalize noteT H[i].note = NT at *
  generalize bsOf (dg H[i].note) = D at *
  generalize H[i] = h at *
  have HNLL : Hid ((lineT ([⟨#[110, 111, 116, 101]⟩, D].map toL)).length ≤ 1000) := by show _ ≤ _; rw [HNL.out]; omega
  have e0 := fun W' (hb : Below w0.heap.size w0 W') => hb.cell (p := ⟨b, o + i * 7, none⟩) h1
  have e1 := fun W' (hb : Below w0.heap.size w0 W') => hb.cell (p := ⟨b, o + i * 7 + 1, none⟩) h1
  have e2 := fun W' (hb : Below w0.heap.size w0 W') => hb.cell (p := ⟨b, o + i * 7 + 2, none⟩) h1
  have e3 := fun W' (hb : Below w0.heap.size w0 W') => hb.cell (p := ⟨b, o + i * 7 + 3, none⟩) h1
  have e4 := fun W' (hb : Below w0.heap.size w0 W') => hb.cell (p := ⟨b, o + i * 7 + 4, none⟩) h1
  have e5 := fun W' (hb : Below w0.heap.size w0 W') => hb.cell (p := ⟨b, o + i * 7 + 5, none⟩) h1
  have e6 := fun W' (hb : Below w0.heap.size w0 W') => hb.cell (p := ⟨b, o + i * 7 + 6, none⟩) h1
  rw [d0] at e0
  rw [d1] at e1
  rw [d2] at e2
  rw [d3] at e3
  rw [d4] at e4
  rw [d5] at e5
  rw [d6] at e6
  have E0 := Lib.hid e0
  have E1 := Lib.hid e1
  have E2 := Lib.hid e2
  have E3 := Lib.hid e3
  have E4 := Lib.hid e4
  have E5 := Lib.hid e5
  have E6 := Lib.hid e6
  clear e0 e1 e2 e3 e4 e5 e6 d0 d1 d2 d3 d4 d5 d6
  have hi' : (i : Int) < (H.length : Int) := by omega
  have hrW := hr.mono hT.bw
  have t0 := hT.bx.cell 0 rfl
  have tl := hT.bx.lt
  have r0 := hrW.cell 1 rfl
  have rz := hrW.lt
  have d6 := E6.out _ hT.bw
  have bz : b < W.heap.size := Nat.lt_of_lt_of_le h1 hT.bw.size
  have hbw := hT.bw
  go_enter Tryz.func37, Tryz.ntmps37
  go_wp2_with fail
  refine wp_region_RW 9 (by kernel_rfl) (by kernel_rfl) ?_
  refine RW.chunk (f := 2) [0, 1, 2, 3, 4, 5, 6] (by kernel_rfl) ?_
  ((simp only [pickOps, List.filterMap, List.getElem?_toArray, List.getElem?_cons_zero, List.getElem?_cons_succ]); (repeat (go_big_quiet_step (fail))); refine wpQuiet_nil ?_)
  refine RW.single 7 rfl (by kernel_rfl) (by omega) ?_
  intro K2 hK2
  go_wp2_with fail
  refine (HI.out _ (below_step hbw (by exact (by repeat (first | assumption | exact Below.refl _ _ | apply bw_alloc | apply bw_drew | apply bw_drewN | apply bw_later | apply bw_step))))).mono ?_
  rintro e w4 ⟨rfl, hb4⟩
  go_wp2_with fail
  refine hK2 _ _ hb4 ?_
  clear hK2
  have hb4' : Below W.heap.size W w4 := below_step (by exact (by repeat (first | assumption | exact Below.refl _ _ | apply bw_alloc | apply bw_drew | apply bw_drewN | apply bw_later | apply bw_step))) hb4
  have hT4 := hT.mono hb4'
  clear t0 tl r0 rz d6 bz hbw hT hb4 HI hrW
  refine RW.single 8 rfl (by kernel_rfl) (by omega) ?_
  intro K2 hK2
  go_wp2_with fail
  refine hK2 _ _ (bw_alloc (Below.refl _ _)) ?_
  clear hK2
  (refine RW.tail (by kernel_rfl) ?_; (simp only [List.drop_succ_cons, List.drop_zero]))
  generalize hW : w4.alloc _ = w6
  have hb6 : Below w4.heap.size w4 w6 := by rw [← hW]; exact (by repeat (first | assumption | exact Below.refl _ _ | apply bw_alloc | apply bw_drew | apply bw_drewN | apply bw_later | apply bw_step))
  have bxw : Box w6 w4.heap.size ([⟨#[110, 111, 116, 101]⟩, D].map Value.string) 9 := by rw [← hW]; exact Box.new _ _ _
  clear hW
  have hT6 := hT4.mono hb6
  have HLN : Hid (Calls Tryz.prog 29 #[.slice (some ⟨w4.heap.size, 0, none⟩) 2 2, .pointer (some ⟨bb, 0, none⟩)] w6 fun e w' => e = .returned (.tuple #[]) ∧ TxW w0 bb bl (l ++ NT) w' ∧ Keeps w6 w') := by
    have h := line_any [⟨#[110, 111, 116, 101]⟩, D] w4.heap.size w6 hT6 bxw (by simp) (by simp) HNLL.out (by omega)
    rw [HNL.out] at h
    exact h
  go_wp2_with fail
  refine HLN.out.mono ?_
  rintro e w7 ⟨rfl, hT7, hK7⟩
  have hK7' : Keeps W w7 := ((Keeps.below hb4').trans (Keeps.below hb6)).trans hK7
  clear HLN hT4 hT6 hb6 bxw hK7 HNL HNLL hb4'
  have hbx7 := (hK.trans hK7').box (by decide) (by decide) hbx
  have q0 := hbx7.cell 0 rfl
  have qz := hbx7.lt
  have hr7 := hr.mono hT7.bw
  have r0 := hr7.cell 1 rfl
  have rz := hr7.lt
  have d0 := E0.out _ hT7.bw
  have d1 := E1.out _ hT7.bw
  have d2 := E2.out _ hT7.bw
  have d3 := E3.out _ hT7.bw
  have d4 := E4.out _ hT7.bw
  have d5 := E5.out _ hT7.bw
  have bz : b < w7.heap.size := Nat.lt_of_lt_of_le h1 hT7.bw.size
  go_wp2_with fail
  refine wp_region_RW 7 (by kernel_rfl) (by kernel_rfl) ?_
  refine RW.chunk (f := 0) [0, 1, 2, 3, 4, 5, 6] (by kernel_rfl) ?_
  ((simp only [pickOps, List.filterMap, List.getElem?_toArray, List.getElem?_cons_zero, List.getElem?_cons_succ]); (repeat (go_big_quiet_step (fail))); refine wpQuiet_nil ?_)
  (refine RW.tail (by kernel_rfl) ?_; (simp only [List.drop_succ_cons, List.drop_zero]))
  go_wp2_with fail
  refine (HC.out _ _ (hT7.mono (Below.refl _ _).drew) (by rw [List.length_append]; omega)).mono ?_
  rintro e w8 ⟨rfl, hT8, hK8⟩
  rw [List.append_assoc] at hT8
  go_wp2_with fail
  go_end0
  exact ⟨rfl, hT8, (hK7'.trans (Keeps.below (Below.refl _ _).drew)).trans hK8⟩
set_option maxHeartbeats 4000000 in
theorem elemU {w0 W0 : World} {bb bl rb : Nat} {v0 v1 : Value} (U : List Int) (A : Option Addr) (c : Nat) (hg : Glo w0)
    (hr : Box w0 rb [v0, v1, .slice A U.length c] 26) (hs : Sl Lay.int w0 A U) (hvn : Hid (∀ n ∈ U, 0 ≤ n ∧ n < 200)) (hn : U.length ≤ 1000) :
    SecEl w0 bb bl W0 38 #[.pointer (some ⟨bl, 0, none⟩), .pointer (some ⟨rb, 0, none⟩)] U.length (fun i => (U[i]?).elim [] idxT) := by
  intro i hi l W hl hT hK
  have HEL : Hid ((U[i]?).elim [] idxT = idxT U[i]) := by show _ = _; rw [List.getElem?_eq_getElem hi]; rfl
  show Calls _ _ #[.int .i64 i, .pointer (some ⟨bl, 0, none⟩), .pointer (some ⟨rb, 0, none⟩)] W (fun e w' => e = .returned (.tuple #[]) ∧ TxW w0 bb bl (l ++ (U[i]?).elim [] idxT) w' ∧ Keeps W w')
  rw [HEL.out]
  clear HEL
  obtain ⟨n0, n1⟩ := hvn.out _ (List.getElem_mem hi)
  obtain ⟨b, o, rfl, h1, d0⟩ := (hs.mono hT.bw).int_at hi
  have HI := Lib.hid (fun W' h => itoa_any U[i] W' ⟨by omega, by omega⟩ (hg.mono h))
  have HNL := Lib.hid (idx_line U[i])
  have hnl := idxT_len n0 n1
  generalize idxT U[i] = NT at *
  generalize bsOf (dg U[i]) = D at *
  generalize U[i] = h at *
  have HNLL : Hid ((lineT ([⟨#[105, 110, 100, 101, 120]⟩, D].map toL)).length ≤ 1000) := by show _ ≤ _; rw [HNL.out]; omega
  have hi' : (i : Int) < (U.length : Int) := by omega
  have hrW := hr.mono hT.bw
  have t0 := hT.bx.cell 0 rfl
  have tl := hT.bx.lt
  have r0 := hrW.cell 2 rfl
  have rz := hrW.lt
  have hbw := hT.bw
  go_enter Tryz.func38, Tryz.ntmps38
  go_wp2_with fail
  refine wp_region_RW 8 (by kernel_rfl) (by kernel_rfl) ?_
  refine RW.chunk (f := 2) [0, 1, 2, 3, 4, 5] (by kernel_rfl) ?_
  ((simp only [pickOps, List.filterMap, List.getElem?_toArray, List.getElem?_cons_zero, List.getElem?_cons_succ]); (repeat (go_big_quiet_step (fail))); refine wpQuiet_nil ?_)
  refine RW.single 6 rfl (by kernel_rfl) (by omega) ?_
  intro K2 hK2
  go_wp2_with fail
  refine (HI.out _ (below_step hbw (by exact (by repeat (first | assumption | exact Below.refl _ _ | apply bw_alloc | apply bw_drew | apply bw_drewN | apply bw_later | apply bw_step))))).mono ?_
  rintro e w4 ⟨rfl, hb4⟩
  go_wp2_with fail
  refine hK2 _ _ hb4 ?_
  clear hK2
  have hb4' : Below W.heap.size W w4 := below_step (by exact (by repeat (first | assumption | exact Below.refl _ _ | apply bw_alloc | apply bw_drew | apply bw_drewN | apply bw_later | apply bw_step))) hb4
  have hT4 := hT.mono hb4'
  clear t0 tl r0 rz hbw hT hb4 HI hrW
  refine RW.single 7 rfl (by kernel_rfl) (by omega) ?_
  intro K2 hK2
  go_wp2_with fail
  refine hK2 _ _ (bw_alloc (Below.refl _ _)) ?_
  clear hK2
  (refine RW.tail (by kernel_rfl) ?_; (simp only [List.drop_succ_cons, List.drop_zero]))
  generalize hW : w4.alloc _ = w6
  have hb6 : Below w4.heap.size w4 w6 := by rw [← hW]; exact (by repeat (first | assumption | exact Below.refl _ _ | apply bw_alloc | apply bw_drew | apply bw_drewN | apply bw_later | apply bw_step))
  have bxw : Box w6 w4.heap.size ([⟨#[105, 110, 100, 101, 120]⟩, D].map Value.string) 9 := by rw [← hW]; exact Box.new _ _ _
  clear hW
  have hT6 := hT4.mono hb6
  have HLN : Hid (Calls Tryz.prog 29 #[.slice (some ⟨w4.heap.size, 0, none⟩) 2 2, .pointer (some ⟨bb, 0, none⟩)] w6 fun e w' => e = .returned (.tuple #[]) ∧ TxW w0 bb bl (l ++ NT) w' ∧ Keeps w6 w') := by
    have h := line_any [⟨#[105, 110, 100, 101, 120]⟩, D] w4.heap.size w6 hT6 bxw (by simp) (by simp) HNLL.out (by omega)
    rw [HNL.out] at h
    exact h
  go_wp2_with fail
  refine HLN.out.mono ?_
  rintro e w7 ⟨rfl, hT7, hK7⟩
  have hK7' : Keeps W w7 := ((Keeps.below hb4').trans (Keeps.below hb6)).trans hK7
  clear HLN hT4 hT6 hb6 bxw hK7 HNL HNLL hb4'
  go_wp2_with fail
  go_end0
  exact ⟨rfl, hT7, hK7'⟩
end Go.Proofs.YtlcdnkloijehjaaGreatDoor

namespace Go.Proofs.YtlcdnkloijehjaaGreatDoor
open Go.RowKit
set_option linter.unusedVariables false

theorem eg4 : ∀ args w, (callFunc 36 args).run Tryz.prog w = .ok (.enter 36 args) w := enters_of (fn := Tryz.f36) (by kernel_rfl) (by kernel_rfl) rfl
theorem eg5 : ∀ args w, (callFunc 37 args).run Tryz.prog w = .ok (.enter 37 args) w := enters_of (fn := Tryz.f37) (by kernel_rfl) (by kernel_rfl) rfl
theorem eg6 : ∀ args w, (callFunc 38 args).run Tryz.prog w = .ok (.enter 38 args) w := enters_of (fn := Tryz.f38) (by kernel_rfl) (by kernel_rfl) rfl
theorem elim_len {α : Type} {l : List α} {f : α → List UInt8} {m : Nat} (h : ∀ x ∈ l, (f x).length ≤ m) : ∀ i, i < l.length → ((l[i]?).elim [] f).length ≤ m := fun i hi => by
  rw [List.getElem?_eq_getElem hi]
  exact h _ (List.getElem_mem hi)
theorem headL_len {w : List UInt8} {n : Nat} (hn : n ≤ 1000) : (headL w n).length ≤ w.length + 30 := by
  have := dg_len (n := (n : Int)) (by omega) (by omega)
  unfold headL
  simp only [List.length_append, List.length_cons, List.length_nil]
  omega
set_option maxHeartbeats 8000000 in
set_option maxRecDepth 100000 in
theorem rptText_any (r0 : Rpt) (A0 A1 A2 : Option Addr) (c0 c1 c2 : Nat) (w : World) (hok : Hid (OkRpt r0)) (hg : Glo w) (hc0 : r0.opn.length ≤ c0) (hs0 : Sl Lay.fnd w A0 r0.opn) (hs1 : Sl Lay.hdn w A1 r0.hdn) (hs2 : Sl Lay.int w A2 r0.uns) :
    Calls Tryz.prog 13 #[.agg #[.slice A0 r0.opn.length c0, .slice A1 r0.hdn.length c1, .slice A2 r0.uns.length c2]] w fun e w' => e = .returned (.tuple #[.string (txtR r0).1, .int .i64 (txtR r0).2]) ∧ Below w.heap.size w w' := by
  obtain ⟨r, HR⟩ : ∃ r, Hid (r = txtR r0) := ⟨_, Lib.hid rfl⟩
  rw [← HR.out]
  have HRET : Hid (∀ (a : ByteArray) (b : Int), r = (a, b) → (Ending.returned (.tuple #[.string a, .int .i64 b]) = Ending.returned (.tuple #[.string r.1, .int .i64 r.2]))) := fun a b h => by rw [h]
  have HCK := Lib.hid (fun W h => rptCheck_any r0 A0 A1 A2 c0 c1 c2 W hok ((hg.mono h).kw) hc0 (hs0.mono h) (hs1.mono h) (hs2.mono h))
  obtain ⟨q, HQ⟩ : ∃ q, Hid (q = rptE r0) := ⟨_, Lib.hid rfl⟩
  rw [← HQ.out] at HCK
  have HBAD : Hid (q ≠ 0 → r = (⟨#[]⟩, q)) := fun h => by rw [HR.out, txtR, if_pos (by rw [← HQ.out]; exact h), ← HQ.out]
  have HZ : Hid (q = 0 → RptV r0) := fun h => rptE_ok (by rw [← HQ.out]; exact h)
  have HFINE : Hid (q = 0 → r = (bsOf (rptT r0), 0)) := fun h => by rw [HR.out, txtR, if_neg (by rw [← HQ.out, h]; simp)]
  have HRT : Hid (rptT r0 = [] ++ headL wOpn r0.opn.length ++ r0.opn.flatMap fndT ++ headL wHdn r0.hdn.length ++ r0.hdn.flatMap hdnT ++ headL wUns r0.uns.length ++ r0.uns.flatMap idxT) := rfl
  generalize rptT r0 = RT at *
  clear HR HQ hok
  obtain ⟨opn, H, U⟩ := r0
  simp only at hs0 hs1 hs2 hc0 HCK HRT ⊢
  have bx0 := Box.new w [.slice A0 opn.length c0, .slice A1 H.length c1, .slice A2 U.length c2] 26
  have hb0 : Below w.heap.size w (w.alloc (.cells #[.slice A0 opn.length c0, .slice A1 H.length c1, .slice A2 U.length c2] 26)) := (by repeat (first | assumption | exact Below.refl _ _ | apply bw_alloc | apply bw_drew | apply bw_drewN | apply bw_later | apply bw_step))
  go_enter Tryz.func13, Tryz.ntmps13
  go_wp2_with fail
  refine (HCK.out _ hb0).mono ?_
  rintro e w1 ⟨rfl, hb1⟩
  have bx1 := bx0.mono hb1
  have hbw1 := below_step hb0 hb1
  clear bx0 hb0 hb1 HCK
  by_cases hq : q = 0
  case neg =>
    have HB := Lib.hid (HBAD.out hq)
    have tq : (q != 0) = true := by simpa using hq
    clear hq
    go_wp2_with fail
    go_ret2
    exact ⟨HRET.out _ _ HB.out, hbw1⟩
  have HV := Lib.hid (HZ.out hq)
  have HF := Lib.hid (HFINE.out hq)
  have n0 := HV.out.n0
  have n1 := HV.out.n1
  have n2 := HV.out.n2
  simp only at n0 n1 n2
  subst hq
  clear HBAD HZ HFINE
  have hg1 := hg.mono hbw1
  have z0 := hs0.mono hbw1
  have z1 := hs1.mono hbw1
  have z2 := hs2.mono hbw1
  generalize hW0 : ((w1.alloc (.cells #[.pointer none, .slice none 0 0] 60)).alloc (.cells #[.func (.func 29) #[] #[.pointer (some ⟨w1.heap.size, 0, none⟩)]] 66)).alloc (.cells #[.func (.func 34) #[] #[.pointer (some ⟨w1.heap.size + 1, 0, none⟩)]] 71) = W2
  have hb2 : Below w1.heap.size w1 W2 := by rw [← hW0]; exact (by repeat (first | assumption | exact Below.refl _ _ | apply bw_alloc | apply bw_drew | apply bw_drewN | apply bw_later | apply bw_step))
  have hbd : BldL w1.heap.size [] W2 := by
    rw [← hW0]
    exact (BldL.mono (Lib.fresh_isBuilder _ _ _) (by exact (by repeat (first | assumption | exact Below.refl _ _ | apply bw_alloc | apply bw_drew | apply bw_drewN | apply bw_later | apply bw_step))))
  have hbl : Box W2 (w1.heap.size + 1) [.func (.func 29) #[] #[.pointer (some ⟨w1.heap.size, 0, none⟩)]] 66 := by rw [← hW0]; exact (Box.at (by simp)).alloc _
  have hbw : Box W2 (w1.heap.size + 2) [.func (.func 34) #[] #[.pointer (some ⟨w1.heap.size + 1, 0, none⟩)]] 71 := by rw [← hW0]; exact Box.at (by simp)
  have hT : TxW w1 w1.heap.size (w1.heap.size + 1) [] W2 := ⟨hbd, hbl, Nat.le_refl _, hb2⟩
  have hx := bx1.mono hb2
  have p0 := hx.cell 0 rfl
  have pl := hx.lt
  go_upto_region 8 with fail
  clear hW0 hbd hbl hb2
  go_wp2_with fail
  refine (section_any 36 #[.pointer (some ⟨w1.heap.size + 2, 0, none⟩), .pointer (some ⟨w.heap.size, 0, none⟩)] eg4 ⟨#[111, 112, 101, 110]⟩ opn.length (fun i => (opn[i]?).elim [] fndT) _ hg1 hT n0 (by decide) (Lib.hid (elemO opn A0 c0 hg1 hbw bx1 z0 (Lib.hid HV.out.opn) n0)) (Lib.hid (elim_len (fun x hx => Nat.le_trans (fndT_len (HV.out.opn x hx)) (by omega)))) (by simp)).mono ?_
  rintro e w3 ⟨rfl, hT3, hK3⟩
  rw [range_flat] at hT3
  have hbw3 := hK3.box (by decide) (by decide) hbw
  have hx := bx1.mono hT3.bw
  clear p0 pl hT hbw hK3
  have p0 := hx.cell 1 rfl
  have pl := hx.lt
  have HL3 : Hid (([] ++ headL wOpn opn.length ++ opn.flatMap fndT).length ≤ 50000000000) := by
    have h1 := flat_len fndT 400000 opn (fun x hx => fndT_len (HV.out.opn x hx))
    have h2 := Nat.mul_le_mul_left 400000 n0
    have h3 := headL_len (w := wOpn) n0
    have h4 : wOpn.length = 4 := rfl
    show _ ≤ _
    rw [List.length_append, List.length_append, List.length_nil]
    omega
  go_wp2_with fail
  refine (section_any 37 #[.pointer (some ⟨w1.heap.size + 1, 0, none⟩), .pointer (some ⟨w.heap.size, 0, none⟩), .pointer (some ⟨w1.heap.size + 2, 0, none⟩)] eg5 ⟨#[104, 105, 100, 100, 101, 110]⟩ H.length (fun i => (H[i]?).elim [] hdnT) _ hg1 hT3 n1 (by decide) (Lib.hid (elemH H A1 c1 hg1 hbw3 bx1 z1 (Lib.hid HV.out.hdn) (Lib.hid HV.out.note) n1)) (Lib.hid (elim_len (fun x hx => Nat.le_trans (hdnT_len (HV.out.hdn x hx) (HV.out.note x hx).1 (HV.out.note x hx).2) (by omega)))) (Nat.le_trans HL3.out (by omega))).mono ?_
  rintro e w4 ⟨rfl, hT4, hK4⟩
  rw [range_flat] at hT4
  have hx := bx1.mono hT4.bw
  clear p0 pl hT3 hbw3 hK4
  have p0 := hx.cell 2 rfl
  have pl := hx.lt
  have HL4 : Hid (([] ++ headL wOpn opn.length ++ opn.flatMap fndT ++ headL wHdn H.length ++ H.flatMap hdnT).length ≤ 100000000000) := by
    have h0 := HL3.out
    have h1 := flat_len hdnT 450000 H (fun x hx => hdnT_len (HV.out.hdn x hx) (HV.out.note x hx).1 (HV.out.note x hx).2)
    have h2 := Nat.mul_le_mul_left 450000 n1
    have h3 := headL_len (w := wHdn) n1
    have h4 : wHdn.length = 6 := rfl
    show _ ≤ _
    rw [List.length_append, List.length_append]
    omega
  go_wp2_with fail
  refine (section_any 38 #[.pointer (some ⟨w1.heap.size + 1, 0, none⟩), .pointer (some ⟨w.heap.size, 0, none⟩)] eg6 ⟨#[117, 110, 117, 115, 101, 100]⟩ U.length (fun i => (U[i]?).elim [] idxT) _ hg1 hT4 (by omega) (by decide) (Lib.hid (elemU U A2 c2 hg1 bx1 z2 (Lib.hid HV.out.uns) (by omega))) (Lib.hid (elim_len (fun x hx => Nat.le_trans (idxT_len (HV.out.uns x hx).1 (HV.out.uns x hx).2) (by omega)))) HL4.out).mono ?_
  rintro e w5 ⟨rfl, hT5, hK5⟩
  rw [range_flat] at hT5
  have HRT2 : Hid (RT = [] ++ headL wOpn opn.length ++ opn.flatMap fndT ++ headL wHdn H.length ++ H.flatMap hdnT ++ headL wUns U.length ++ U.flatMap idxT) := HRT
  have hT6 : TxW w1 w1.heap.size (w1.heap.size + 1) RT w5 := by rw [HRT2.out]; exact hT5
  clear p0 pl hT4 hT5 hK5 HL3 HL4
  go_wp2_with fail
  refine (Tryz.Builder_String_any _ _ _ _ hT6.bd (Nat.le_of_lt hT6.bd.lt)).mono ?_
  rintro e w6 ⟨rfl, hb6⟩
  have hbw6 : Below w.heap.size w w6 := (below_step hbw1 hT6.bw).trans (hb6.mono (Nat.le_of_lt bx1.lt))
  go_wp2_with fail
  go_ret2
  exact ⟨HRET.out _ _ HF.out, hbw6⟩
end Go.Proofs.YtlcdnkloijehjaaGreatDoor

namespace Go.Proofs.YtlcdnkloijehjaaGreatDoor
open Go.RowKit
set_option linter.unusedVariables false

theorem refKind_any (k : Int) (w : World) : Calls Tryz.prog 71 #[.int .i64 k] w fun e w' => e = .returned (.string (bsOf (kindW k))) ∧ w = w' := by
  obtain ⟨R, HR⟩ : ∃ R, Hid (R = bsOf (kindW k)) := ⟨_, Lib.hid rfl⟩
  rw [← HR.out]
  go_enter Tryz.func71, Tryz.ntmps71
  by_cases h1 : k = 1
  · have HB : Hid (R = ⟨#[117, 110, 115, 101, 116]⟩) := by show _ = _; rw [HR.out, kindW, if_pos h1]; rfl
    have t1 : (k == 1) = true := by simp [h1]
    clear h1
    go_wp2_with fail
    go_ret
    exact ⟨by rw [HB.out]; rfl, rfl⟩
  have t1 : (k == 1) = false := by simp [h1]
  by_cases h2 : k = 2
  · have HB : Hid (R = ⟨#[115, 116, 97, 116, 101]⟩) := by show _ = _; rw [HR.out, kindW, if_neg h1, if_pos h2]; rfl
    have t2 : (k == 2) = true := by simp [h2]
    clear h1 h2
    go_wp2_with fail
    go_ret
    exact ⟨by rw [HB.out]; rfl, rfl⟩
  have t2 : (k == 2) = false := by simp [h2]
  by_cases h3 : k = 3
  · have HB : Hid (R = ⟨#[116, 97, 105, 110, 116]⟩) := by show _ = _; rw [HR.out, kindW, if_neg h1, if_neg h2, if_pos h3]; rfl
    have t3 : (k == 3) = true := by simp [h3]
    clear h1 h2 h3
    go_wp2_with fail
    go_ret
    exact ⟨by rw [HB.out]; rfl, rfl⟩
  have t3 : (k == 3) = false := by simp [h3]
  by_cases h4 : k = 4
  · have HB : Hid (R = ⟨#[98, 114, 97, 110, 99, 104]⟩) := by show _ = _; rw [HR.out, kindW, if_neg h1, if_neg h2, if_neg h3, if_pos h4]; rfl
    have t4 : (k == 4) = true := by simp [h4]
    clear h1 h2 h3 h4
    go_wp2_with fail
    go_ret
    exact ⟨by rw [HB.out]; rfl, rfl⟩
  have t4 : (k == 4) = false := by simp [h4]
  have HB : Hid (R = ⟨#[42]⟩) := by show _ = _; rw [HR.out, kindW, if_neg h1, if_neg h2, if_neg h3, if_neg h4]; rfl
  clear h1 h2 h3 h4
  go_wp2_with fail
  go_ret
  exact ⟨by rw [HB.out]; rfl, rfl⟩
set_option maxHeartbeats 1000000 in
theorem refPlaceT_any (p : Plc) (w : World) (hv : PlcV p) : Calls Tryz.prog 72 #[.agg #[.string p.cls, .string p.mth, .int .i64 p.ins]] w fun e w' => e = .returned (.string (bsOf (placeT p))) ∧ Below w.heap.size w w' := by
  have s1 := (identB_size hv.cls).2
  have s2 := (identB_size hv.mth).2
  have i0 := hv.i0
  have i1 := hv.i1
  have hd := dg_len (n := p.ins) (by omega) (by omega)
  have HD := Lib.hid (fun W => digits_any p.ins W ⟨by omega, by omega⟩)
  have s3 : (bsOf (dg p.ins)).size ≤ 21 := by rw [bsOf_size]; exact hd
  obtain ⟨R, HR⟩ : ∃ R, Hid (R = bsOf (placeT p)) := ⟨_, Lib.hid rfl⟩
  rw [← HR.out]
  obtain ⟨D, HDD⟩ : ∃ D, Hid (D = bsOf (dg p.ins)) := ⟨_, Lib.hid rfl⟩
  rw [← HDD.out] at HD s3
  have HB : Hid ((((p.cls ++ ⟨#[32]⟩) ++ p.mth) ++ ⟨#[32]⟩) ++ D = R) := by
    show _ = _
    refine toL_inj ?_
    rw [HR.out, HDD.out]
    simp only [toL_app]
    rfl
  clear HR HDD hd hv
  have bx0 := Box.new w [.string p.cls, .string p.mth, .int .i64 p.ins] 43
  have p0 := bx0.cell 0 rfl
  have p1 := bx0.cell 1 rfl
  have p2 := bx0.cell 2 rfl
  have pl := bx0.lt
  go_enter Tryz.func72, Tryz.ntmps72
  go_wp2_with fail
  refine wp_region_later (by kernel_rfl) (by kernel_rfl) ?_
  repeat (go_big_quiet_step ((go_at_call 40; exact Calls.later (HD.out _))))
  refine wpQuiet_nil ?_
  rintro _ ⟨z, rfl⟩
  rw [HB.out]
  go_wp2_with fail
  go_ret
  exact ⟨rfl, below_step (by exact (by repeat (first | assumption | exact Below.refl _ _ | apply bw_alloc | apply bw_drew | apply bw_drewN | apply bw_later | apply bw_step))) z.h⟩
set_option maxHeartbeats 4000000 in
set_option maxRecDepth 100000 in
theorem refLines_any (f : Fnd) (A : Option Addr) (c : Nat) (w : World) (hv : Hid (FndV f)) (hs : Sl Lay.plc w A f.path) :
    Calls Tryz.prog 41 #[.agg #[.int .i64 f.kind, .string f.plc.cls, .string f.plc.mth, .int .i64 f.plc.ins, .string f.what, .slice A f.path.length c]] w fun e w' => e = .returned (.string (bsOf (fndT f))) ∧ Below w.heap.size w w' := by
  have HPV := Lib.hid hv.out.path
  have hlen := hv.out.len
  have hH := fndH_len hv.out
  have s1 := kindW_len f.kind
  have s2 := placeT_len hv.out.plc
  have s3 := (whatB_size hv.out.what).2
  have hd := dg_len (n := (f.path.length : Int)) (by omega) (by omega)
  have HK := Lib.hid (refKind_any f.kind)
  have HP := Lib.hid (fun W => refPlaceT_any f.plc W hv.out.plc)
  have HD := Lib.hid (fun W => digits_any (f.path.length : Int) W ⟨by omega, by omega⟩)
  have HFH : Hid (fndH f = [102, 105, 110, 100, 105, 110, 103, 32] ++ kindW f.kind ++ [32] ++ placeT f.plc ++ [32] ++ toL f.what ++ [32] ++ dg f.path.length ++ [10]) := by show _ = _; unfold fndH wFnd; simp
  have HFT : Hid (bsOf (fndT f) = bsOf (fndH f ++ f.path.flatMap viaT)) := rfl
  rw [HFT.out]
  generalize fndH f = FH at *
  obtain ⟨K, HKK⟩ : ∃ D, Hid (D = bsOf (kindW f.kind)) := ⟨_, Lib.hid rfl⟩
  obtain ⟨P, HPP⟩ : ∃ D, Hid (D = bsOf (placeT f.plc)) := ⟨_, Lib.hid rfl⟩
  obtain ⟨D, HDD⟩ : ∃ D, Hid (D = bsOf (dg (f.path.length : Int))) := ⟨_, Lib.hid rfl⟩
  have k1 : K.size ≤ 6 := by rw [HKK.out, bsOf_size]; exact s1
  have k2 : P.size ≤ 87 := by rw [HPP.out, bsOf_size]; exact s2
  have k3 : D.size ≤ 21 := by rw [HDD.out, bsOf_size]; exact hd
  have HB : Hid (toL (((((((((⟨#[102, 105, 110, 100, 105, 110, 103, 32]⟩ : ByteArray) ++ K) ++ ⟨#[32]⟩) ++ P) ++ ⟨#[32]⟩) ++ f.what) ++ ⟨#[32]⟩) ++ D) ++ ⟨#[10]⟩) = FH) := by
    show _ = _
    rw [HFH.out, HKK.out, HPP.out, HDD.out]
    simp only [toL_app]
    rfl
  rw [← HKK.out] at HK
  rw [← HPP.out] at HP
  rw [← HDD.out] at HD
  clear HKK HPP HDD HFH HFT hv s1 s2 hd
  obtain ⟨fk, fp, fw, fl⟩ := f
  simp only at hs hlen s3 HPV HK HP HD HB ⊢
  have hbx := Box.new w [.int .i64 fk, .string fp.cls, .string fp.mth, .int .i64 fp.ins, .string fw, .slice A fl.length c] 46
  have hb0 : Below w.heap.size w (w.alloc (.cells #[.int .i64 fk, .string fp.cls, .string fp.mth, .int .i64 fp.ins, .string fw, .slice A fl.length c] 46)) := (by repeat (first | assumption | exact Below.refl _ _ | apply bw_alloc | apply bw_drew | apply bw_drewN | apply bw_later | apply bw_step))
  have p0 := hbx.cell 0 rfl
  have p1 := hbx.cell 1 rfl
  have p2 := hbx.cell 2 rfl
  have p3 := hbx.cell 3 rfl
  have p4 := hbx.cell 4 rfl
  have p5 := hbx.cell 5 rfl
  have pl := hbx.lt
  go_enter Tryz.func41, Tryz.ntmps41
  go_wp2_with fail
  refine wp_region_later (by kernel_rfl) (by kernel_rfl) ?_
  repeat (go_big_quiet_step ((first | (go_at_call 40; exact Calls.later (HD.out _)) | (go_at_call 72; exact Calls.later (HP.out _)) | (go_at_call 71; exact Calls.later_same (HK.out _)))))
  refine wpQuiet_nil ?_
  rintro _ ⟨z, rfl⟩
  have hbxz := hbx.mono z.h
  have hbwz := below_step hb0 z.h
  have HB2 := Lib.hid HB.out
  obtain ⟨T, HT⟩ : ∃ T, Hid (((((((((⟨#[102, 105, 110, 100, 105, 110, 103, 32]⟩ : ByteArray) ++ K) ++ ⟨#[32]⟩) ++ P) ++ ⟨#[32]⟩) ++ fw) ++ ⟨#[32]⟩) ++ D) ++ ⟨#[10]⟩ = T) := ⟨_, Lib.hid rfl⟩
  have HTF : Hid (toL T = FH) := by show _ = _; rw [← HT.out]; exact HB.out
  rw [HT.out]
  generalize hzw : z.W = w1 at *
  clear hzw HT HB HB2 p0 p1 p2 p3 p4 p5 pl hbx hb0 HK HP HD
  clear z
  go_wp2_with fail
  go_loopw [3, 4] (fun v3 i wr => ∃ (k : Nat) (t : ByteArray), k ≤ fl.length ∧ i = .int .i64 k ∧ v3 = .string t ∧ t.size ≤ 200 + 100 * k ∧ Hid (toL t = FH ++ (fl.take k).flatMap viaT) ∧ Box wr w.heap.size [.int .i64 fk, .string fp.cls, .string fp.mth, .int .i64 fp.ins, .string fw, .slice A fl.length c] 46 ∧ Below w.heap.size w wr) (fun _ i _ => fl.length - (intOf i).toNat)
  case atStart => exact ⟨0, T, Nat.zero_le _, rfl, rfl, by rw [← toL_len, HTF.out]; omega, Lib.hid (by rw [HTF.out]; simp), hbxz, hbwz⟩
  case round =>
    clear hbxz hbwz HTF
    obtain ⟨k, t, hk, rfl, rfl, hts, HT, hbx, hbw⟩ := hrel
    have p5 := hbx.cell 5 rfl
    have pl := hbx.lt
    by_cases hlt : k < fl.length
    · obtain ⟨b, o, rfl, h1, d0, d1, d2⟩ := (hs.mono hbw).plc_at hlt
      have HPX := HPV.out _ (List.getElem_mem hlt)
      have HP := Lib.hid (fun W => refPlaceT_any fl[k] W HPX)
      have s2 := placeT_len HPX
      have HFK := Lib.hid (flat_take viaT hlt)
      have HVT : Hid (viaT fl[k] = [118, 105, 97, 32] ++ placeT fl[k] ++ [10]) := rfl
      obtain ⟨P, HPP⟩ : ∃ D, Hid (D = bsOf (placeT fl[k])) := ⟨_, Lib.hid rfl⟩
      have k2 : P.size ≤ 87 := by rw [HPP.out, bsOf_size]; exact s2
      have HN : Hid (toL ((t ++ ⟨#[118, 105, 97, 32]⟩ ++ P) ++ ⟨#[10]⟩) = FH ++ (fl.take (k + 1)).flatMap viaT) := by
        show _ = _
        rw [HFK.out, HVT.out, HPP.out]
        simp only [toL_app, HT.out, List.append_assoc]
        rfl
      have hns : ((t ++ ⟨#[118, 105, 97, 32]⟩ ++ P) ++ ⟨#[10]⟩).size ≤ 200 + 100 * (k + 1) := by simp only [ByteArray.size_append, ByteArray.size_mk']; simp; omega
      rw [← HPP.out] at HP
      clear HFK HVT HPP HPX s2 HT
      have hts2 : t.size ≤ 1000000 := by omega
      go_wp2_with fail
      refine (HP.out _).mono ?_
      rintro e w2 ⟨rfl, hb2⟩
      have hbx2 := hbx.mono hb2
      have hbw2 := below_step hbw hb2
      go_wp2_with fail
      go_roundw
      case rel => exact ⟨k + 1, _, by omega, by go_num, rfl, hns, HN, hbx2, hbw2⟩
      case measure => simp [intOf]; omega
    · obtain rfl : k = fl.length := by omega
      rw [List.take_length] at HT
      go_wp2_with fail
      go_ret
      exact ⟨by rw [bsOf_toL HT.out]; rfl, hbw⟩
end Go.Proofs.YtlcdnkloijehjaaGreatDoor

namespace Go.Proofs.YtlcdnkloijehjaaGreatDoor
open Go.RowKit
set_option linter.unusedVariables false

set_option maxHeartbeats 8000000 in
set_option maxRecDepth 100000 in
theorem refRptText_any (r0 : Rpt) (A0 A1 A2 : Option Addr) (c0 c1 c2 : Nat) (w : World) (hok : Hid (OkRpt r0)) (hs0 : Sl Lay.fnd w A0 r0.opn) (hs1 : Sl Lay.hdn w A1 r0.hdn) (hs2 : Sl Lay.int w A2 r0.uns) :
    Calls Tryz.prog 14 #[.agg #[.slice A0 r0.opn.length c0, .slice A1 r0.hdn.length c1, .slice A2 r0.uns.length c2]] w fun e w' => e = .returned (.tuple #[.string (txtR r0).1, .int .i64 (txtR r0).2]) ∧ Below w.heap.size w w' := by
  obtain ⟨r, HR⟩ : ∃ r, Hid (r = txtR r0) := ⟨_, Lib.hid rfl⟩
  rw [← HR.out]
  have HRET : Hid (∀ (a : ByteArray) (b : Int), r = (a, b) → (Ending.returned (.tuple #[.string a, .int .i64 b]) = Ending.returned (.tuple #[.string r.1, .int .i64 r.2]))) := fun a b h => by rw [h]
  have HCK := Lib.hid (fun W h => refRptCheck_any r0 A0 A1 A2 c0 c1 c2 W hok (hs0.mono h) (hs1.mono h) (hs2.mono h))
  obtain ⟨q, HQ⟩ : ∃ q, Hid (q = rptE r0) := ⟨_, Lib.hid rfl⟩
  rw [← HQ.out] at HCK
  have HBAD : Hid (q ≠ 0 → r = (⟨#[]⟩, q)) := fun h => by rw [HR.out, txtR, if_pos (by rw [← HQ.out]; exact h), ← HQ.out]
  have HZ : Hid (q = 0 → RptV r0) := fun h => rptE_ok (by rw [← HQ.out]; exact h)
  have HFINE : Hid (q = 0 → r = (bsOf (rptT r0), 0)) := fun h => by rw [HR.out, txtR, if_neg (by rw [← HQ.out, h]; simp)]
  have HRT : Hid (rptT r0 = headL wOpn r0.opn.length ++ r0.opn.flatMap fndT ++ headL wHdn r0.hdn.length ++ r0.hdn.flatMap hdnT ++ headL wUns r0.uns.length ++ r0.uns.flatMap idxT) := rfl
  generalize rptT r0 = RT at *
  clear HR HQ hok
  obtain ⟨opn, H, U⟩ := r0
  simp only at hs0 hs1 hs2 HCK HRT ⊢
  have bx0 := Box.new w [.slice A0 opn.length c0, .slice A1 H.length c1, .slice A2 U.length c2] 26
  have hb0 : Below w.heap.size w (w.alloc (.cells #[.slice A0 opn.length c0, .slice A1 H.length c1, .slice A2 U.length c2] 26)) := (by repeat (first | assumption | exact Below.refl _ _ | apply bw_alloc | apply bw_drew | apply bw_drewN | apply bw_later | apply bw_step))
  go_enter Tryz.func14, Tryz.ntmps14
  go_wp2_with fail
  refine (HCK.out _ hb0).mono ?_
  rintro e w1 ⟨rfl, hb1⟩
  have bx1 := bx0.mono hb1
  have hbw1 := below_step hb0 hb1
  clear bx0 hb0 hb1 HCK
  by_cases hq : q = 0
  case neg =>
    have HB := Lib.hid (HBAD.out hq)
    have tq : (q != 0) = true := by simpa using hq
    clear hq
    go_wp2_with fail
    go_ret2
    exact ⟨HRET.out _ _ HB.out, hbw1⟩
  have HV := Lib.hid (HZ.out hq)
  have HF := Lib.hid (HFINE.out hq)
  have n0 := HV.out.n0
  have n1 := HV.out.n1
  have n2 := HV.out.n2
  simp only at n0 n1 n2
  have HVO := Lib.hid HV.out.opn
  have HVH := Lib.hid HV.out.hdn
  have HVN := Lib.hid HV.out.note
  have HVU := Lib.hid HV.out.uns
  simp only at HVO HVH HVN HVU
  subst hq
  clear HBAD HZ HFINE HV
  obtain ⟨L1, HL1⟩ : ∃ L, Hid (L = headL wOpn opn.length) := ⟨_, Lib.hid rfl⟩
  obtain ⟨L2, HL2⟩ : ∃ L, Hid (L = L1 ++ opn.flatMap fndT ++ headL wHdn H.length) := ⟨_, Lib.hid rfl⟩
  obtain ⟨L3, HL3⟩ : ∃ L, Hid (L = L2 ++ H.flatMap hdnT ++ headL wUns U.length) := ⟨_, Lib.hid rfl⟩
  have HRT2 : Hid (RT = L3 ++ U.flatMap idxT) := by show _ = _; rw [HRT.out, HL3.out, HL2.out, HL1.out]
  have z1 : L1.length ≤ 100 := by
    rw [HL1.out]
    have h3 := headL_len (w := wOpn) n0
    have h4 : wOpn.length = 4 := rfl
    omega
  have z2 : L2.length ≤ 500000000 := by
    rw [HL2.out, List.length_append, List.length_append]
    have h1 := flat_len fndT 400000 opn (fun x hx => fndT_len (HVO.out x hx))
    have h2 := Nat.mul_le_mul_left 400000 n0
    have h3 := headL_len (w := wHdn) n1
    have h4 : wHdn.length = 6 := rfl
    omega
  have z3 : L3.length ≤ 1000000000 := by
    rw [HL3.out, List.length_append, List.length_append]
    have h1 := flat_len hdnT 450000 H (fun x hx => hdnT_len (HVH.out x hx) (HVN.out x hx).1 (HVN.out x hx).2)
    have h2 := Nat.mul_le_mul_left 450000 n1
    have h3 := headL_len (w := wUns) (n := U.length) (by omega)
    have h4 : wUns.length = 6 := rfl
    omega
  have HRTF : Hid (RT = RT) := rfl
  clear HRT HRTF
  have HD1 := Lib.hid (fun W => digits_any (opn.length : Int) W ⟨by omega, by omega⟩)
  have s1 : (bsOf (dg (opn.length : Int))).size ≤ 21 := by rw [bsOf_size]; exact dg_len (by omega) (by omega)
  obtain ⟨D1, HDD⟩ : ∃ D, Hid (D = bsOf (dg (opn.length : Int))) := ⟨_, Lib.hid rfl⟩
  rw [← HDD.out] at HD1 s1
  have HS1 : Hid (toL ((⟨#[111, 112, 101, 110, 32]⟩ : ByteArray) ++ D1 ++ ⟨#[10]⟩) = L1 ++ (opn.take 0).flatMap fndT) := by
    show _ = _
    rw [HL1.out, HDD.out]
    simp only [toL_app, List.append_assoc, List.take_zero, List.flatMap_nil, List.append_nil, headL, toL_bsOf]
    rfl
  clear HDD HL1
  have p0 := bx1.cell 0 rfl
  have pl := bx1.lt
  go_wp2_with fail
  refine (HD1.out _).mono ?_
  rintro e w2 ⟨rfl, hb2⟩
  have bx2 := bx1.mono hb2
  have hbw2 := below_step hbw1 hb2
  clear bx1 hbw1 hb2 HD1 p0 pl
  go_wp2_with fail
  go_loopw [5, 6] (fun v5 i wr => ∃ (k : Nat) (t : ByteArray), k ≤ opn.length ∧ i = .int .i64 k ∧ v5 = .string t ∧ t.size ≤ 100 + 400000 * k ∧ Hid (toL t = L1 ++ (opn.take k).flatMap fndT) ∧ Box wr w.heap.size [.slice A0 opn.length c0, .slice A1 H.length c1, .slice A2 U.length c2] 26 ∧ Below w.heap.size w wr) (fun _ i _ => opn.length - (intOf i).toNat)
  case atStart => exact ⟨0, _, Nat.zero_le _, rfl, rfl, by simp only [ByteArray.size_append, ByteArray.size_mk']; simp; omega, HS1, bx2, hbw2⟩
  case round =>
    clear bx2 hbw2 HS1
    obtain ⟨k, t, hk, rfl, rfl, hts, HT, hbx, hbw⟩ := hrel
    have p0 := hbx.cell 0 rfl
    have pl := hbx.lt
    by_cases hlt : k < opn.length
    · obtain ⟨b, o, A3, c3, rfl, h1, d0, d1, d2, d3, d4, d5, hc3, hs3⟩ := (hs0.mono hbw).fnd_at hlt
      have HVF := Lib.hid (HVO.out _ (List.getElem_mem hlt))
      have HC := Lib.hid (refLines_any opn[k] A3 c3 wr HVF hs3)
      have s2 := fndT_len HVF.out
      have HFK := Lib.hid (flat_take fndT hlt)
      obtain ⟨P, HPP⟩ : ∃ D, Hid (D = bsOf (fndT opn[k])) := ⟨_, Lib.hid rfl⟩
      have k2 : P.size ≤ 400000 := by rw [HPP.out, bsOf_size]; exact s2
      have HN : Hid (toL (t ++ P) = L1 ++ (opn.take (k + 1)).flatMap fndT) := by
        show _ = _
        rw [HFK.out, HPP.out]
        simp only [toL_app, HT.out, List.append_assoc]
        rfl
      have hns : (t ++ P).size ≤ 100 + 400000 * (k + 1) := by simp only [ByteArray.size_append]; omega
      rw [← HPP.out] at HC
      clear HFK HPP HVF s2 HT
      have hts2 : t.size ≤ 500000000 := by omega
      go_wp2_with fail
      refine HC.out.mono ?_
      rintro e w2 ⟨rfl, hb2⟩
      have hbx2 := hbx.mono hb2
      have hbw2 := below_step hbw hb2
      go_wp2_with fail
      go_roundw
      case rel => exact ⟨k + 1, _, by omega, by go_num, rfl, hns, HN, hbx2, hbw2⟩
      case measure => simp [intOf]; omega
    · have HK : Hid (k = opn.length) := by show _ = _; omega
      rw [HK.out, List.take_length] at HT
      have hts2 : t.size ≤ 500000000 := by omega
      clear hts
      have HD1 := Lib.hid (fun W => digits_any (H.length : Int) W ⟨by omega, by omega⟩)
      have s1 : (bsOf (dg (H.length : Int))).size ≤ 21 := by rw [bsOf_size]; exact dg_len (by omega) (by omega)
      obtain ⟨D2, HDD⟩ : ∃ D, Hid (D = bsOf (dg (H.length : Int))) := ⟨_, Lib.hid rfl⟩
      rw [← HDD.out] at HD1 s1
      have HS1 : Hid (toL ((t ++ (⟨#[104, 105, 100, 100, 101, 110, 32]⟩ : ByteArray)) ++ D2 ++ ⟨#[10]⟩) = L2 ++ (H.take 0).flatMap hdnT) := by
        show _ = _
        rw [HL2.out, HDD.out]
        simp only [toL_app, HT.out, List.append_assoc, List.take_zero, List.flatMap_nil, List.append_nil, headL, toL_bsOf]
        rfl
      have hz2 : ((t ++ (⟨#[104, 105, 100, 100, 101, 110, 32]⟩ : ByteArray)) ++ D2 ++ ⟨#[10]⟩).size ≤ 500000000 + 500000 * 0 := by
        rw [← toL_len, HS1.out]
        simp
        omega
      clear HDD HL2 HT
      have p1 := hbx.cell 1 rfl
      go_wp2_with fail
      refine (HD1.out _).mono ?_
      rintro e w2 ⟨rfl, hb2⟩
      have bx2 := hbx.mono hb2
      have hbw2 := below_step hbw hb2
      clear hbx hbw hb2 HD1 p0 p1 pl
      go_wp2_with fail
      go_loopw [5, 7] (fun v5 i wr => ∃ (k : Nat) (t : ByteArray), k ≤ H.length ∧ i = .int .i64 k ∧ v5 = .string t ∧ t.size ≤ 500000000 + 500000 * k ∧ Hid (toL t = L2 ++ (H.take k).flatMap hdnT) ∧ Box wr w.heap.size [.slice A0 opn.length c0, .slice A1 H.length c1, .slice A2 U.length c2] 26 ∧ Below w.heap.size w wr) (fun _ i _ => H.length - (intOf i).toNat)
      case atStart => exact ⟨0, _, Nat.zero_le _, rfl, rfl, hz2, HS1, bx2, hbw2⟩
      case round =>
        clear bx2 hbw2 HS1 hz2
        obtain ⟨j, u, hj, rfl, rfl, hus, HT, hbx, hbw⟩ := hrel
        have p1 := hbx.cell 1 rfl
        have pl := hbx.lt
        by_cases hlt2 : j < H.length
        · obtain ⟨b, o, A3, c3, rfl, h1, d0, d1, d2, d3, d4, d5, d6, hc3, hs3⟩ := (hs1.mono hbw).hdn_at hlt2
          have HVF := Lib.hid (HVH.out _ (List.getElem_mem hlt2))
          obtain ⟨n0, n1⟩ := HVN.out _ (List.getElem_mem hlt2)
          have HC := Lib.hid (fun W (h : Below wr.heap.size wr W) => refLines_any H[j].f A3 c3 W HVF (hs3.mono h))
          have HD := Lib.hid (fun W => digits_any H[j].note W ⟨by omega, by omega⟩)
          have s2 := fndT_len HVF.out
          have s3 : (bsOf (dg H[j].note)).size ≤ 21 := by rw [bsOf_size]; exact dg_len (by omega) (by omega)
          have HFK := Lib.hid (flat_take hdnT hlt2)
          have HHT : Hid (hdnT H[j] = [110, 111, 116, 101, 32] ++ dg H[j].note ++ [10] ++ fndT H[j].f) := by show _ = _; unfold hdnT noteT wNote; simp
          obtain ⟨P, HPP⟩ : ∃ D, Hid (D = bsOf (fndT H[j].f)) := ⟨_, Lib.hid rfl⟩
          obtain ⟨D, HDD⟩ : ∃ D, Hid (D = bsOf (dg H[j].note)) := ⟨_, Lib.hid rfl⟩
          have k2 : P.size ≤ 400000 := by rw [HPP.out, bsOf_size]; exact s2
          have HN : Hid (toL ((((u ++ ⟨#[110, 111, 116, 101, 32]⟩) ++ D) ++ ⟨#[10]⟩) ++ P) = L2 ++ (H.take (j + 1)).flatMap hdnT) := by
            show _ = _
            rw [HFK.out, HPP.out, HDD.out, HHT.out]
            simp only [toL_app, HT.out, List.append_assoc]
            rfl
          rw [← HDD.out] at HD s3
          have hns : ((((u ++ ⟨#[110, 111, 116, 101, 32]⟩) ++ D) ++ ⟨#[10]⟩) ++ P).size ≤ 500000000 + 500000 * (j + 1) := by simp only [ByteArray.size_append, ByteArray.size_mk']; simp; omega
          rw [← HPP.out] at HC
          clear HFK HPP HDD HVF s2 HT HHT n0 n1
          have hus2 : u.size ≤ 1000000000 := by omega
          obtain ⟨X, HX⟩ : ∃ X, Hid ((((u ++ ⟨#[110, 111, 116, 101, 32]⟩) ++ D) ++ ⟨#[10]⟩) ++ P = X) := ⟨_, Lib.hid rfl⟩
          rw [HX.out] at HN hns
          go_wp2_with fail
          refine wp_region_later (by kernel_rfl) (by kernel_rfl) ?_
          repeat (go_big_quiet_step ((first | (go_at_call 40; exact Calls.later (HD.out _)) | (go_at_call 41; exact Calls.later (HC.out _ (by exact (by repeat (first | assumption | exact Below.refl _ _ | apply bw_alloc | apply bw_drew | apply bw_drewN | apply bw_later | apply bw_step))))))))
          refine wpQuiet_nil ?_
          rintro _ ⟨z, rfl⟩
          rw [HX.out]
          have hbx2 := hbx.mono z.h
          have hbw2 := below_step hbw z.h
          go_wp2_with fail
          go_roundw
          case rel => exact ⟨j + 1, X, by omega, by go_num, rfl, hns, HN, hbx2, hbw2⟩
          case measure => simp [intOf]; omega
        · have HK2 : Hid (j = H.length) := by show _ = _; omega
          rw [HK2.out, List.take_length] at HT
          have hus2 : u.size ≤ 1000000000 := by omega
          clear hus
          have HD1 := Lib.hid (fun W => digits_any (U.length : Int) W ⟨by omega, by omega⟩)
          have s1 : (bsOf (dg (U.length : Int))).size ≤ 21 := by rw [bsOf_size]; exact dg_len (by omega) (by omega)
          obtain ⟨D3, HDD⟩ : ∃ D, Hid (D = bsOf (dg (U.length : Int))) := ⟨_, Lib.hid rfl⟩
          rw [← HDD.out] at HD1 s1
          have HS1 : Hid (toL ((u ++ (⟨#[117, 110, 117, 115, 101, 100, 32]⟩ : ByteArray)) ++ D3 ++ ⟨#[10]⟩) = L3 ++ (U.take 0).flatMap idxT) := by
            show _ = _
            rw [HL3.out, HDD.out]
            simp only [toL_app, HT.out, List.append_assoc, List.take_zero, List.flatMap_nil, List.append_nil, headL, toL_bsOf]
            rfl
          have hz2 : ((u ++ (⟨#[117, 110, 117, 115, 101, 100, 32]⟩ : ByteArray)) ++ D3 ++ ⟨#[10]⟩).size ≤ 1000000000 + 50 * 0 := by
            rw [← toL_len, HS1.out]
            simp
            omega
          clear HDD HL3 HT
          have p2 := hbx.cell 2 rfl
          go_wp2_with fail
          refine (HD1.out _).mono ?_
          rintro e w2 ⟨rfl, hb2⟩
          have bx2 := hbx.mono hb2
          have hbw2 := below_step hbw hb2
          clear hbx hbw hb2 HD1 p1 p2 pl
          go_wp2_with fail
          go_loopw [5, 8] (fun v5 i wr => ∃ (k : Nat) (t : ByteArray), k ≤ U.length ∧ i = .int .i64 k ∧ v5 = .string t ∧ t.size ≤ 1000000000 + 50 * k ∧ Hid (toL t = L3 ++ (U.take k).flatMap idxT) ∧ Box wr w.heap.size [.slice A0 opn.length c0, .slice A1 H.length c1, .slice A2 U.length c2] 26 ∧ Below w.heap.size w wr) (fun _ i _ => U.length - (intOf i).toNat)
          case atStart => exact ⟨0, _, Nat.zero_le _, rfl, rfl, hz2, HS1, bx2, hbw2⟩
          case round =>
            clear bx2 hbw2 HS1 hz2
            obtain ⟨m, x, hm, rfl, rfl, hxs, HT, hbx, hbw⟩ := hrel
            have p2 := hbx.cell 2 rfl
            have pl := hbx.lt
            by_cases hlt3 : m < U.length
            · obtain ⟨b, o, rfl, h1, d0⟩ := (hs2.mono hbw).int_at hlt3
              obtain ⟨n0, n1⟩ := HVU.out _ (List.getElem_mem hlt3)
              have HD := Lib.hid (fun W => digits_any U[m] W ⟨by omega, by omega⟩)
              have s2 := idxT_len n0 n1
              have s3 : (bsOf (dg U[m])).size ≤ 21 := by rw [bsOf_size]; exact dg_len (by omega) (by omega)
              have HFK := Lib.hid (flat_take idxT hlt3)
              have HHT : Hid (idxT U[m] = [105, 110, 100, 101, 120, 32] ++ dg U[m] ++ [10]) := by show _ = _; unfold idxT wIdx; simp
              obtain ⟨D, HDD⟩ : ∃ D, Hid (D = bsOf (dg U[m])) := ⟨_, Lib.hid rfl⟩
              have HN : Hid (toL (((x ++ ⟨#[105, 110, 100, 101, 120, 32]⟩) ++ D) ++ ⟨#[10]⟩) = L3 ++ (U.take (m + 1)).flatMap idxT) := by
                show _ = _
                rw [HFK.out, HDD.out, HHT.out]
                simp only [toL_app, HT.out, List.append_assoc]
                rfl
              rw [← HDD.out] at HD s3
              have hns : (((x ++ ⟨#[105, 110, 100, 101, 120, 32]⟩) ++ D) ++ ⟨#[10]⟩).size ≤ 1000000000 + 50 * (m + 1) := by simp only [ByteArray.size_append, ByteArray.size_mk']; simp; omega
              clear HFK HDD s2 HT HHT n0 n1
              have hxs2 : x.size ≤ 1100000000 := by omega
              go_wp2_with fail
              refine (HD.out _).mono ?_
              rintro e w2 ⟨rfl, hb2⟩
              have hbx2 := hbx.mono hb2
              have hbw2 := below_step hbw hb2
              go_wp2_with fail
              go_roundw
              case rel => exact ⟨m + 1, _, by omega, by go_num, rfl, hns, HN, hbx2, hbw2⟩
              case measure => simp [intOf]; omega
            · obtain rfl : m = U.length := by omega
              rw [List.take_length, ← HRT2.out] at HT
              have HB : Hid (r = (x, 0)) := by show _ = _; rw [HF.out, bsOf_toL HT.out]
              go_wp2_with fail
              go_ret2
              exact ⟨HRET.out _ _ HB.out, hbw⟩
end Go.Proofs.YtlcdnkloijehjaaGreatDoor
