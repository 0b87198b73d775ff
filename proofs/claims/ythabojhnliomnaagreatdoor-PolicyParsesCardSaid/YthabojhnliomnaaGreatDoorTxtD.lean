/-
  Chapter 39: the text of a protocol, the program's: the walk.
-/
import Derived.Test.YthabojhnliomnaaGreatDoorTxtC
namespace Go.Proofs.YthabojhnliomnaaGreatDoor
open Go.RowKit
set_option linter.unusedVariables false

theorem PtcV.okPtc {p : Ptc} (h : PtcV p) : OkPtc p :=
  ⟨by have := h.cls; omega, by have := h.len; omega, fun y hy => by have := h.sz y hy; omega, by have := h.mlen; omega, fun m hm => by
    obtain ⟨i, hi, rfl⟩ := List.getElem_of_mem hm
    have := (h.mv i hi).2.2
    omega⟩
theorem natOf {n : Nat} {q : Int} (h : inSt n q) : ∃ a : Nat, q = a ∧ a < n := ⟨q.toNat, by have := h.1; omega, by have := h.1; have := h.2; omega⟩
theorem ptcT_len {p : Ptc} (h : PtcV p) : (ptcT p).length ≤ 40000 := by
  obtain ⟨sa, hsa, hsal⟩ := natOf h.start
  obtain ⟨ea, hea, heal⟩ := natOf h.err
  unfold ptcT headT
  rw [stN_at hsa hsal, stN_at hea heal, List.length_append]
  have h1 := flat_len (fun l : List UInt8 => l ++ [10]) 600 ([wProto ++ toL p.cls, wStates ++ p.states.flatMap (fun s => 32 :: toL s), wStart ++ toL p.states[sa], wError ++ toL p.states[ea]]) (fun l hl => by
    have k1 := h.cls
    have k2 := flat_states_len h.sz h.len
    have k3 := h.sz _ (List.getElem_mem hsal)
    have k4 := h.sz _ (List.getElem_mem heal)
    simp only [List.mem_cons, List.not_mem_nil, or_false] at hl
    rcases hl with rfl | rfl | rfl | rfl <;> simp only [List.length_append, toL_len, wProto, wStates, wStart, wError, List.length_cons, List.length_nil] <;> omega)
  have h2 := flat_len (fun l : List UInt8 => l ++ [10]) 104 (p.moves.map (moveT p.states)) (fun l hl => by
    obtain ⟨m, hm, rfl⟩ := List.mem_map.1 hl
    obtain ⟨i, hi, rfl⟩ := List.getElem_of_mem hm
    have k := h.mv i hi
    have := moveT_len h.sz k.2.2 k.1 k.2.1
    rw [List.length_append]
    simp only [List.length_cons, List.length_nil]
    omega)
  rw [List.length_map] at h2
  have h3 := h.mlen
  rw [List.flatMap_append, List.length_append]
  have h4 : wEnd.length = 4 := rfl
  simp only [List.length_cons, List.length_nil] at h1
  omega
set_option maxRecDepth 100000 in
set_option maxHeartbeats 8000000 in
theorem ptcText_v (p : Ptc) (A1 A4 : Option Addr) (c1 c4 : Nat) (w : World) (hkw : KwX w) (hv : Hid (PtcV p)) (hc1 : p.states.length ≤ c1) (hs1 : Sl Lay.str w A1 p.states) (hs4 : Sl Lay.mov w A4 p.moves) :
    Calls Tryz.prog 36 #[.agg #[.string p.cls, .slice A1 p.states.length c1, .int .i64 p.start, .int .i64 p.err, .slice A4 p.moves.length c4]] w fun e w' => RetTx (ptcT p) e ∧ Below w.heap.size w w' := by
  have HCH := Lib.hid (fun W h => ptcCheck_any p A1 A4 c1 c4 W (Lib.hid hv.out.okPtc) (hkw.mono h) hc1 (hs1.mono h) (hs4.mono h))
  rw [hv.out.ok] at HCH
  have HSZ := Lib.hid hv.out.sz
  have HMV := Lib.hid hv.out.mv
  have hcl := hv.out.cls
  have hlen := hv.out.len
  have hml := hv.out.mlen
  obtain ⟨sa, hsa, hsal⟩ := natOf hv.out.start
  obtain ⟨ea, hea, heal⟩ := natOf hv.out.err
  obtain ⟨R, HR⟩ : ∃ R, Hid (R = ptcT p) := ⟨_, Lib.hid rfl⟩
  rw [← HR.out]
  obtain ⟨cl, sts, st, er, mvs⟩ := p
  simp only at hcl hlen hml hsa hea hsal heal hc1 hs1 hs4 HCH HSZ HMV ⊢
  subst hsa hea
  have hs0 : 0 < sts.length := by omega
  have hRl : R.length ≤ 40000 := by rw [HR.out]; exact ptcT_len hv.out
  have HHD : Hid (R = (headT ⟨cl, sts, sa, ea, mvs⟩ ++ mvs.map (moveT sts)).flatMap (fun l => l ++ [10]) ++ wEnd) := HR.out
  clear HR
  have bx0 := Box.new w [.string cl, .slice A1 sts.length c1, .int .i64 sa, .int .i64 ea, .slice A4 mvs.length c4] 63
  have hb0 : Below w.heap.size w (w.alloc (.cells #[.string cl, .slice A1 sts.length c1, .int .i64 sa, .int .i64 ea, .slice A4 mvs.length c4] 63)) := (by repeat (first | assumption | exact Below.refl _ _ | apply bw_alloc | apply bw_drew | apply bw_drewN | apply bw_later | apply bw_step))
  go_enter Tryz.func36, Tryz.ntmps36
  go_wp2_with fail
  refine (HCH.out _ hb0).mono ?_
  rintro e w1 ⟨rfl, hb1⟩
  have bx1 := bx0.mono hb1
  have hbw1 := below_step hb0 hb1
  have hs11 := hs1.mono hbw1
  clear bx0 hb0 hb1 HCH
  obtain ⟨b, o, hA, hb, ds⟩ := hs11.str_at hsal
  obtain ⟨b', o', hA', hb', de⟩ := hs11.str_at heal
  subst hA
  injection hA' with hA'
  injection hA' with z1 z2
  subst z1 z2
  have hse := HSZ.out _ (List.getElem_mem hsal)
  have hee := HSZ.out _ (List.getElem_mem heal)
  obtain ⟨J, HJ, hJ⟩ : ∃ J : ByteArray, Hid (J = bsOf (Lib.join (sts.map toL) (toL ⟨#[32]⟩))) ∧ J.size ≤ 600 := ⟨_, Lib.hid rfl, by
    have h1 := join_sp (ls := sts.map toL) (by rw [List.length_map]; exact hs0)
    have h2 := congrArg List.length h1
    have h3 := flat_states_len HSZ.out hlen
    rw [List.flatMap_map] at h2
    rw [← toL_len]
    show (Lib.join (sts.map toL) [32]).length ≤ 600
    simp only [List.length_append, List.length_cons, List.length_nil] at h2
    omega⟩
  have HJC : Hid (∀ x : Later w1, Calls Tryz.prog 34 #[.slice (some ⟨b, o, none⟩) sts.length c1, .string ⟨#[32]⟩] x.W fun e w' => e = .returned (.string J) ∧ Below x.W.heap.size x.W w') := fun x => by
    rw [HJ.out]
    exact joinS c1 sts ⟨#[32]⟩ (hs11.later x) hs0 hc1 (by omega) (by
      have h1 : (bsOf (Lib.join (sts.map toL) (toL ⟨#[32]⟩))).size ≤ 600 := by rw [← HJ.out]; exact hJ
      rw [← toL_len] at h1
      have h2 : (Lib.join (sts.map toL) (toL ⟨#[32]⟩)).length ≤ 600 := h1
      omega)
  have p0 := bx1.cell 0 rfl
  have p1 := bx1.cell 1 rfl
  have p2 := bx1.cell 2 rfl
  have p3 := bx1.cell 3 rfl
  have pl := bx1.lt
  go_wp2_with fail
  refine wp_region_later_tail 21 (by kernel_rfl) (by kernel_rfl) ?_
  simp only [List.take_succ_cons, List.take_zero, List.drop_succ_cons, List.drop_zero]
  repeat (go_big_quiet_step (first | (go_at_call 34; exact Calls.later (HJC.out _))))
  refine wpQuiet_nil ?_
  rintro _ ⟨z, rfl⟩
  have bxz := bx1.mono z.h
  have hbwz := below_step hbw1 z.h
  generalize z.W = wz at *
  clear p0 p1 p2 p3 pl
  have q4 := bxz.cell 4 rfl
  have ql := bxz.lt
  go_wp2_with fail
  have bxz2 := bxz.alloc (.cells #[.string (⟨#[112, 114, 111, 116, 111, 99, 111, 108, 32]⟩ ++ cl), .string (⟨#[115, 116, 97, 116, 101, 115, 32]⟩ ++ J), .string (⟨#[115, 116, 97, 114, 116, 32]⟩ ++ sts[sa]), .string (⟨#[101, 114, 114, 111, 114, 32]⟩ ++ sts[ea])] 9)
  have hbwz2 : Below w.heap.size w (wz.alloc (.cells #[.string (⟨#[112, 114, 111, 116, 111, 99, 111, 108, 32]⟩ ++ cl), .string (⟨#[115, 116, 97, 116, 101, 115, 32]⟩ ++ J), .string (⟨#[115, 116, 97, 114, 116, 32]⟩ ++ sts[sa]), .string (⟨#[101, 114, 114, 111, 114, 32]⟩ ++ sts[ea])] 9)) := bw_alloc hbwz
  have ho2 : Own cellsStr 1 wz.heap.size 9 (wz.alloc (.cells #[.string (⟨#[112, 114, 111, 116, 111, 99, 111, 108, 32]⟩ ++ cl), .string (⟨#[115, 116, 97, 116, 101, 115, 32]⟩ ++ J), .string (⟨#[115, 116, 97, 114, 116, 32]⟩ ++ sts[sa]), .string (⟨#[101, 114, 114, 111, 114, 32]⟩ ++ sts[ea])] 9)) (.slice (some ⟨wz.heap.size, 0, none⟩) 4 4) ([⟨#[112, 114, 111, 116, 111, 99, 111, 108, 32]⟩ ++ cl, ⟨#[115, 116, 97, 116, 101, 115, 32]⟩ ++ J, ⟨#[115, 116, 97, 114, 116, 32]⟩ ++ sts[sa], ⟨#[101, 114, 114, 111, 114, 32]⟩ ++ sts[ea]] : List ByteArray) := Own.lit wz #[.string (⟨#[112, 114, 111, 116, 111, 99, 111, 108, 32]⟩ ++ cl), .string (⟨#[115, 116, 97, 116, 101, 115, 32]⟩ ++ J), .string (⟨#[115, 116, 97, 114, 116, 32]⟩ ++ sts[sa]), .string (⟨#[101, 114, 114, 111, 114, 32]⟩ ++ sts[ea])] [⟨#[112, 114, 111, 116, 111, 99, 111, 108, 32]⟩ ++ cl, ⟨#[115, 116, 97, 116, 101, 115, 32]⟩ ++ J, ⟨#[115, 116, 97, 114, 116, 32]⟩ ++ sts[sa], ⟨#[101, 114, 114, 111, 114, 32]⟩ ++ sts[ea]] (Nat.le_refl _) (show 4 ≤ maxLen by decide) rfl rfl
  replace ho2 := ho2.base_le' (show w.heap.size + 1 ≤ wz.heap.size from ql)
  have HL0 : Hid (([⟨#[112, 114, 111, 116, 111, 99, 111, 108, 32]⟩ ++ cl, ⟨#[115, 116, 97, 116, 101, 115, 32]⟩ ++ J, ⟨#[115, 116, 97, 114, 116, 32]⟩ ++ sts[sa], ⟨#[101, 114, 114, 111, 114, 32]⟩ ++ sts[ea]] : List ByteArray).map toL = headT ⟨cl, sts, sa, ea, mvs⟩ ++ ((mvs.take 0).map (moveT sts))) := by
    have h1 := join_sp (ls := sts.map toL) (by rw [List.length_map]; exact hs0)
    rw [List.flatMap_map] at h1
    show _ = _
    unfold headT
    rw [stN_at rfl hsal, stN_at rfl heal, ← h1]
    simp only [List.map_cons, List.map_nil, toL_app, List.take_zero, List.append_nil, HJ.out]
    rfl
  generalize hW : World.alloc wz _ = w2 at *
  clear hW q4
  generalize hLL : [(⟨#[112, 114, 111, 116, 111, 99, 111, 108, 32]⟩ ++ cl : ByteArray), ⟨#[115, 116, 97, 116, 101, 115, 32]⟩ ++ J, ⟨#[115, 116, 97, 114, 116, 32]⟩ ++ sts[sa], ⟨#[101, 114, 114, 111, 114, 32]⟩ ++ sts[ea]] = L0 at *
  have hL0 : L0.length ≤ 4 := by rw [← hLL]; exact Nat.le_refl 4
  clear hLL ds de
  go_loopw [5, 38] (fun v5 i wr => ∃ (k : Nat) (L : List ByteArray), k ≤ mvs.length ∧ i = .int .i64 k ∧ L.length ≤ 4 + k ∧ Own cellsStr 1 (w.heap.size + 1) 9 wr v5 L ∧ Hid (L.map toL = headT ⟨cl, sts, sa, ea, mvs⟩ ++ ((mvs.take k).map (moveT sts))) ∧ Box wr w.heap.size [.string cl, .slice (some ⟨b, o, none⟩) sts.length c1, .int .i64 sa, .int .i64 ea, .slice A4 mvs.length c4] 63 ∧ Below w.heap.size w wr) (fun _ i _ => mvs.length - (intOf i).toNat)
  case atStart => exact ⟨0, L0, Nat.zero_le _, rfl, hL0, ho2, HL0, bxz2, hbwz2⟩
  case round =>
    clear bxz bxz2 hbwz hbwz2 ho2 HL0
    obtain ⟨k, L, hk, rfl, hLl, ho, HL, hbx, hbw⟩ := hrel
    obtain ⟨AL, nL, cL, rfl⟩ := ho.isSl
    by_cases hlt : k < mvs.length
    · obtain ⟨b4, o4, rfl, hb4, d0, d1, d2⟩ := (hs4.mono hbw).mov_at hlt
      obtain ⟨v1, v2, v3⟩ := HMV.out k hlt
      obtain ⟨sx, hsx, hsxl⟩ := natOf v1
      obtain ⟨dx, hdx, hdxl⟩ := natOf v2
      have HMT : Hid (moveT sts mvs[k] = wMove ++ toL sts[sx] ++ [32] ++ toL mvs[k].mth ++ [32] ++ toL sts[dx]) := by show _ = _; unfold moveT; rw [stN_at hsx hsxl, stN_at hdx hdxl]
      rw [hsx] at d0
      rw [hdx] at d2
      clear v1 v2 hsx hdx
      have e1 := HSZ.out _ (List.getElem_mem hsxl)
      have e2 := HSZ.out _ (List.getElem_mem hdxl)
      have bm := Box.new wr [.int .i64 sx, .string mvs[k].mth, .int .i64 dx] 103
      have hbxa := hbx.alloc (.cells #[.int .i64 sx, .string mvs[k].mth, .int .i64 dx] 103)
      have hoa := ho.alloc (.cells #[.int .i64 sx, .string mvs[k].mth, .int .i64 dx] 103)
      have hbwa : Below w.heap.size w (wr.alloc (.cells #[.int .i64 sx, .string mvs[k].mth, .int .i64 dx] 103)) := bw_alloc hbw
      go_upto_region 8 with fail
      generalize hW : World.alloc wr _ = w3 at *
      clear hW d0 d1 d2
      obtain ⟨b5, o5, hA5, hb5, ds⟩ := (hs1.mono hbwa).str_at hsxl
      obtain ⟨b6, o6, hA6, hb6, de⟩ := (hs1.mono hbwa).str_at hdxl
      injection hA5 with hA5
      injection hA5 with z1 z2
      subst z1 z2
      injection hA6 with hA6
      injection hA6 with z1 z2
      subst z1 z2
      have p1 := hbxa.cell 1 rfl
      have pl := hbxa.lt
      have m0 := bm.cell 0 rfl
      have m1 := bm.cell 1 rfl
      have m2 := bm.cell 2 rfl
      have ml := bm.lt
      obtain ⟨Y, HY⟩ : ∃ Y : ByteArray, Hid ((((((⟨#[109, 111, 118, 101, 32]⟩ ++ sts[sx]) ++ ⟨#[32]⟩) ++ mvs[k].mth) ++ ⟨#[32]⟩) ++ sts[dx]) = Y) := ⟨_, Lib.hid rfl⟩
      have HN : Hid ((L ++ [Y]).map toL = headT ⟨cl, sts, sa, ea, mvs⟩ ++ ((mvs.take (k + 1)).map (moveT sts))) := by
        show _ = _
        rw [List.take_succ_eq_append_getElem hlt, List.map_append, List.map_append, HL.out, ← List.append_assoc, List.map_cons, List.map_nil, List.map_cons, List.map_nil, HMT.out, ← HY.out]
        simp only [toL_app]
        rfl
      refine wp_region_RW 21 (by kernel_rfl) (by kernel_rfl) ?_
      refine RW.chunk (f := 1) [0, 1, 2, 3, 4, 5, 6, 7, 8, 9, 10, 11, 12, 13, 14, 15, 16, 17, 18, 19] (by kernel_rfl) ?_
      ((simp only [pickOps, List.filterMap, List.getElem?_toArray, List.getElem?_cons_zero, List.getElem?_cons_succ]); (repeat (go_big_quiet_step (fail))); refine wpQuiet_nil ?_)
      rw [HY.out]
      refine RW.single 20 rfl (by kernel_rfl) (by omega) ?_
      intro K hK
      go_wp2_with fail
      refine hK _ _ (bw_alloc (Below.refl _ _)) ?_
      clear hK
      (refine RW.tail (by kernel_rfl) ?_; (simp only [List.drop_succ_cons, List.drop_zero]))
      clear p1 pl m0 m1 m2 ml
      have hbxz := hbxa.drew
      have hoz : Own cellsStr 1 (w.heap.size + 1) 9 w3.drew (.slice AL nL cL) L := hoa.mono (bw_drew (Below.refl _ _))
      have hbwz : Below w.heap.size w w3.drew := bw_drew hbwa
      have hzl : w.heap.size < w3.heap.size := hbxa.lt
      go_wp2_with (at_builtin; refine wpList_push strsTy cellsStr_ok rfl (.tmp 42) (.tmp 62) rfl (w.heap.size + 1) _ L rfl (hoz.alloc _) Y _ _ rfl (cells_one_new _ _ _) (by unfold maxLen; omega) (by omega) (by simp; omega) ?_; intro v7 w7 hown7 hb7; obtain ⟨A7, n7, c7, rfl⟩ := hown7.isSl)
      have hbx7 := (hbxz.alloc _).below (by omega) hb7
      have hbw7 := (bw_alloc hbwz).trans (hb7.mono (by omega))
      go_roundw
      case rel => exact ⟨k + 1, _, by omega, by go_num, by rw [List.length_append]; simp; omega, hown7, HN, hbx7, hbw7⟩
      case measure => simp [intOf]; omega
    · obtain rfl : k = mvs.length := by omega
      rw [List.take_length] at HL
      have HFIN : Hid (Lib.join ((L ++ [(⟨#[101, 110, 100, 10]⟩ : ByteArray)]).map toL) (toL (⟨#[10]⟩ : ByteArray)) = R) := by
        show _ = _
        rw [HHD.out, List.map_append, HL.out]
        exact join_end wEnd _
      have hzl := hbx.lt
      go_wp2_with (at_builtin; refine wpList_push strsTy cellsStr_ok rfl (.tmp 65) (.tmp 66) rfl (w.heap.size + 1) _ L rfl (ho.alloc _) ⟨#[101, 110, 100, 10]⟩ _ _ rfl (cells_one_new _ _ _) (by unfold maxLen; omega) (by omega) (by simp; omega) ?_; intro v7 w7 hown7 hb7)
      have hbw7 := (bw_alloc hbw).trans (hb7.mono (by omega))
      obtain ⟨A7, c7, rfl, hc7, hs7⟩ := StrsV.of_own hown7
      have hlp : 0 < (L ++ [(⟨#[101, 110, 100, 10]⟩ : ByteArray)]).length := by simp
      obtain ⟨b7, o7, rfl, hb7', _⟩ := hs7.str_at hlp
      have HJ2 : Hid (Calls Tryz.prog 34 #[.slice (some ⟨b7, o7, none⟩) (L ++ [(⟨#[101, 110, 100, 10]⟩ : ByteArray)]).length c7, .string ⟨#[10]⟩] w7 fun e w' => e = .returned (.string (bsOf R)) ∧ Below w7.heap.size w7 w') := by
        have h := joinS c7 (L ++ [(⟨#[101, 110, 100, 10]⟩ : ByteArray)]) ⟨#[10]⟩ hs7 hlp hc7 (by rw [List.length_append]; simp; omega) (by rw [HFIN.out]; omega)
        rw [HFIN.out] at h
        exact h
      refine HJ2.out.mono ?_
      rintro e w8 ⟨rfl, hb8⟩
      go_wp2_with fail
      go_ret2
      exact ⟨rfl, below_step hbw7 hb8⟩
end Go.Proofs.YthabojhnliomnaaGreatDoor
