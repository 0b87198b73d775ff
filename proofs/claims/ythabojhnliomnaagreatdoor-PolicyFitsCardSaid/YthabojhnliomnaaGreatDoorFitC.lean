/-
  Chapter 42: the reference's check of a protocol against a hierarchy. (Printed by wip/gen/fitC.py.)
-/
import Derived.Test.YthabojhnliomnaaGreatDoorFitB
namespace Go.Proofs.YthabojhnliomnaaGreatDoor
open Go.RowKit
set_option linter.unusedVariables false

set_option maxRecDepth 100000 in
set_option maxHeartbeats 4000000 in
theorem fitsProtocol_any (cs : List Cls) (q : Ptc) (A A1 A4 : Option Addr) (c c1 c4 : Nat) (w : World) (hcs : Hid (OkCs cs)) (hml : q.moves.length ≤ 9223372036854775807) (hsl : Sl Lay.cls w A cs) (hs4 : Sl Lay.mov w A4 q.moves) :
    Calls Tryz.prog 60 #[.agg #[.slice A cs.length c], .agg #[.string q.cls, .slice A1 q.states.length c1, .int .i64 q.start, .int .i64 q.err, .slice A4 q.moves.length c4]] w fun e w' => e = .returned (.int .i64 (fitP cs q)) ∧ Below w.heap.size w w' := by
  obtain ⟨r, HR⟩ : ∃ r, Hid (r = fitP cs q) := ⟨_, Lib.hid rfl⟩
  rw [← HR.out]
  obtain ⟨cl, sts, st, er, mvs⟩ := q
  simp only at hml hs4 ⊢
  have bh0 := Box.new w [.slice A cs.length c] 42
  have bx0 := Box.new (w.alloc (.cells #[.slice A cs.length c] 42)) [.string cl, .slice A1 sts.length c1, .int .i64 st, .int .i64 er, .slice A4 mvs.length c4] 63
  have bh1 := bh0.alloc (.cells #[.string cl, .slice A1 sts.length c1, .int .i64 st, .int .i64 er, .slice A4 mvs.length c4] 63)
  have hb0 : Below w.heap.size w ((w.alloc (.cells #[.slice A cs.length c] 42)).alloc (.cells #[.string cl, .slice A1 sts.length c1, .int .i64 st, .int .i64 er, .slice A4 mvs.length c4] 63)) := (by repeat (first | assumption | exact Below.refl _ _ | apply bw_alloc | apply bw_drew | apply bw_drewN | apply bw_later | apply bw_step))
  rw [show (w.alloc (.cells #[.slice A cs.length c] 42)).heap.size = w.heap.size + 1 by simp] at bx0
  have hfb := fnd_bd cs cl
  have HFD := Lib.hid (fun W h => refFind_g A c cs cl W hcs.out.1 (hsl.mono h))
  go_enter Tryz.func60, Tryz.ntmps60
  go_wp2_with fail
  refine (HFD.out _ hb0).mono ?_
  rintro e w1 ⟨rfl, hb1⟩
  have bx1 := bx0.mono hb1
  have bh2 := bh1.mono hb1
  have hbw1 := below_step hb0 hb1
  clear hb0 hb1 bh0 bx0 bh1 HFD
  by_cases hf : fnd cs cl < 0
  · have HB : Hid (r = 6) := by show _ = _; rw [HR.out]; exact if_pos hf
    go_wp2_with fail
    go_ret
    exact ⟨by rw [HB.out]; rfl, hbw1⟩
  have HP : Hid (r = firstE (fitMF cs cl mvs) mvs.length) := by show _ = _; rw [HR.out]; exact if_neg hf
  clear HR
  go_wp2_with fail
  clear hf hfb
  generalize fnd cs cl = fi at *
  go_loopw [5] (fun i wr => ∃ k : Nat, k ≤ mvs.length ∧ i = .int .i64 k ∧ Hid (firstE (fitMF cs cl mvs) k = 0) ∧ Box wr w.heap.size [.slice A cs.length c] 42 ∧ Box wr (w.heap.size + 1) [.string cl, .slice A1 sts.length c1, .int .i64 st, .int .i64 er, .slice A4 mvs.length c4] 63 ∧ Below w.heap.size w wr) (fun i _ => mvs.length - (intOf i).toNat)
  case atStart => exact ⟨0, Nat.zero_le _, rfl, Lib.hid rfl, bh2, bx1, hbw1⟩
  case round =>
    clear bx1 bh2 hbw1
    obtain ⟨k, hk, rfl, HN, bh, bx, hbw⟩ := hrel
    have h0 := bh.cell 0 rfl
    have hl0 := bh.lt
    have p0 := bx.cell 0 rfl
    have p4 := bx.cell 4 rfl
    have pl := bx.lt
    by_cases hlt : k < mvs.length
    case neg =>
      obtain rfl : k = mvs.length := by omega
      have HB : Hid (r = 0) := by show _ = _; rw [HP.out]; exact HN.out
      go_wp2_with fail
      go_ret
      exact ⟨by rw [HB.out]; rfl, hbw⟩
    have HF := Lib.hid (fitMF_at (cs := cs) (cl := cl) hlt)
    have HHIT : Hid (fitMF cs cl mvs k = 6 → r = 6) := fun h => by rw [HP.out, firstE_hit HN.out (by rw [h]; omega) hlt, h]
    obtain ⟨b, o, rfl, hb, d0, d1, d2⟩ := (hs4.mono hbw).mov_at hlt
    have HLK := Lib.hid (fun W h => refLookup_g A c cs cl mvs[k].mth W hcs.out.1 (hsl.mono h) (Lib.hid hcs.out.2.2))
    cases hsg : sgL cs cl mvs[k].mth with
    | none =>
      have HB : Hid (r = 6) := HHIT.out (by rw [HF.out, fitM, hsg])
      have HSG := Lib.hid hsg
      clear hsg
      go_upto_region 6 with fail
      go_cut [7, 8] (fun s7 s8 wx => s8 = .bool false ∧ (∃ bG : Nat, s7 = .pointer (some ⟨bG, 0, none⟩)) ∧ Below wr.heap.size wr wx)
      case first =>
        refine wp_region_RZ 18 (by kernel_rfl) (by kernel_rfl) ?_
        refine RZ.chunk (f := 9) [0, 1, 2, 3, 4, 5, 6, 7, 8] (by kernel_rfl) ?_
        ((simp only [pickOps, List.filterMap, List.getElem?_toArray, List.getElem?_cons_zero, List.getElem?_cons_succ]); (repeat (go_big_quiet_step (fail))); refine wpQuiet_nil ?_)
        refine RZ.both 9 14 rfl rfl (by kernel_rfl) (by omega) (by omega) ?_ ?_
        · intro K hK
          go_wp2_with fail
          refine (HLK.out _ hbw.drew).mono ?_
          rintro e w6 ⟨hR, hb6⟩
          have hb6' : Below wr.heap.size wr w6 := below_step (Below.refl _ _).drew hb6
          obtain rfl := (hR.toV hcs.out.2.2).no HSG.out
          unfold noLook
          go_wp2_with fail
          refine hK _ _ hb6 ?_
          clear hK
          refine RZ.chunk (f := 4) [10, 11, 12, 13] (by kernel_rfl) ?_
          ((simp only [pickOps, List.filterMap, List.getElem?_toArray, List.getElem?_cons_zero, List.getElem?_cons_succ]); (repeat (go_big_quiet_step (fail))); refine wpQuiet_nil ?_)
          refine RZ.single 14 rfl (by kernel_rfl) (by omega) ?_
          intro K hK
          go_wp2_with fail
          refine hK _ _ (bw_alloc hb6) ?_
          clear hK
          refine RZ.chunk (f := 2) [15] (by kernel_rfl) ?_
          ((simp only [pickOps, List.filterMap, List.getElem?_toArray, List.getElem?_cons_zero, List.getElem?_cons_succ]); (repeat (go_big_quiet_step (fail))); refine wpQuiet_nil ?_)
          refine RZ.single 16 rfl (by kernel_rfl) (by omega) ?_
          intro K hK
          go_wp2_with fail
          refine hK _ _ (bw_alloc hb6) ?_
          clear hK
          refine RZ.chunk (f := 0) [17] (by kernel_rfl) ?_
          ((simp only [pickOps, List.filterMap, List.getElem?_toArray, List.getElem?_cons_zero, List.getElem?_cons_succ]); (repeat (go_big_quiet_step (fail))); refine wpQuiet_nil ?_)
          (refine RZ.done (by kernel_rfl) (by kernel_rfl) ?_)
          go_wp2_with fail
          go_meet
          exact ⟨rfl, ⟨_, rfl⟩, bw_alloc hb6'⟩
        · intro K hK
          go_wp2_with fail
          refine hK _ _ (bw_alloc (Below.refl _ _)) ?_
          clear hK
          generalize hW : World.drew (World.alloc _ _) = W2
          have hbz : Below wr.drew.heap.size wr.drew W2 := by rw [← hW]; exact bw_alloc (Below.refl _ _)
          have hbz2 : Below wr.heap.size wr W2 := below_step (Below.refl _ _).drew hbz
          have byz : Box W2 wr.heap.size [.string ⟨#[]⟩, .bool false, .slice none 0 0, .string ⟨#[]⟩] 98 := by rw [← hW]; exact (Box.new _ _ _).drew
          clear hW
          refine RZ.single 9 rfl (by kernel_rfl) (by omega) ?_
          intro K hK
          go_wp2_with fail
          refine (HLK.out _ (below_step hbw hbz2)).mono ?_
          rintro e w6 ⟨hR, hb6⟩
          have hb7 := below_step hbz hb6
          have hb7' : Below wr.heap.size wr w6 := below_step hbz2 hb6
          have by6 := byz.mono hb6
          obtain rfl := (hR.toV hcs.out.2.2).no HSG.out
          unfold noLook
          go_wp2_with fail
          refine hK _ _ hb7 ?_
          clear hK
          refine RZ.chunk (f := 2) [10, 11, 12, 13, 15] (by kernel_rfl) ?_
          ((simp only [pickOps, List.filterMap, List.getElem?_toArray, List.getElem?_cons_zero, List.getElem?_cons_succ]); (repeat (go_big_quiet_step (fail))); refine wpQuiet_nil ?_)
          have yl6 := by6.lt
          have yf := fun i => by6.free i
          have y0 := by6.cell 0 rfl
          have y1 := by6.cell 1 rfl
          have y2 := by6.cell 2 rfl
          have y3 := by6.cell 3 rfl
          obtain ⟨by9, hg9⟩ := by6.store4 (.string ⟨#[]⟩) (.bool false) (.slice none 0 0) (.string ⟨#[]⟩)
          have hb9 := hb7'.grown hg9 hb7'.size (fun k hk => by injection hk with hk; omega)
          have hb9d := hb7.grown hg9 hb7.size (fun k hk => by injection hk with hk; have : wr.drew.heap.size = wr.heap.size := rfl; omega)
          refine RZ.single 16 rfl (by kernel_rfl) (by omega) ?_
          intro K hK
          go_wp2_with fail
          refine hK _ _ hb9d ?_
          clear hK
          refine RZ.chunk (f := 0) [17] (by kernel_rfl) ?_
          ((simp only [pickOps, List.filterMap, List.getElem?_toArray, List.getElem?_cons_zero, List.getElem?_cons_succ]); (repeat (go_big_quiet_step (fail))); refine wpQuiet_nil ?_)
          (refine RZ.done (by kernel_rfl) (by kernel_rfl) ?_)
          go_wp2_with fail
          go_meet
          exact ⟨rfl, ⟨_, rfl⟩, hb9⟩
      case rest =>
        obtain ⟨rfl, ⟨bG, rfl⟩, hbx⟩ := hcut
        clear h0 hl0 p0 p4 pl d0 d1 d2
        go_wp2_with fail
        go_ret
        exact ⟨by rw [HB.out]; rfl, below_step hbw hbx⟩
    | some g =>
      have HSG := Lib.hid hsg
      have HF2 : Hid (fitMF cs cl mvs k = if g.static then 6 else 0) := by show _ = _; rw [HF.out, fitM, hsg]
      clear hsg HF
      go_upto_region 6 with fail
      go_cut [7, 8] (fun s7 s8 wx => s8 = .bool true ∧ (∃ (bG : Nat) (AG : Option Addr) (cG : Nat), s7 = .pointer (some ⟨bG, 0, none⟩) ∧ Box wx bG [.string g.name, .bool g.static, .slice AG g.params.length cG, .string g.result] 98) ∧ Below wr.heap.size wr wx)
      case first =>
        refine wp_region_RZ 18 (by kernel_rfl) (by kernel_rfl) ?_
        refine RZ.chunk (f := 9) [0, 1, 2, 3, 4, 5, 6, 7, 8] (by kernel_rfl) ?_
        ((simp only [pickOps, List.filterMap, List.getElem?_toArray, List.getElem?_cons_zero, List.getElem?_cons_succ]); (repeat (go_big_quiet_step (fail))); refine wpQuiet_nil ?_)
        refine RZ.both 9 14 rfl rfl (by kernel_rfl) (by omega) (by omega) ?_ ?_
        · intro K hK
          go_wp2_with fail
          refine (HLK.out _ hbw.drew).mono ?_
          rintro e w6 ⟨hR, hb6⟩
          have hb6' : Below wr.heap.size wr w6 := below_step (Below.refl _ _).drew hb6
          obtain ⟨hpl, nm, A7, c7, rfl⟩ := (hR.toV hcs.out.2.2).yes g HSG.out
          go_wp2_with fail
          refine hK _ _ hb6 ?_
          clear hK
          refine RZ.chunk (f := 4) [10, 11, 12, 13] (by kernel_rfl) ?_
          ((simp only [pickOps, List.filterMap, List.getElem?_toArray, List.getElem?_cons_zero, List.getElem?_cons_succ]); (repeat (go_big_quiet_step (fail))); refine wpQuiet_nil ?_)
          refine RZ.single 14 rfl (by kernel_rfl) (by omega) ?_
          intro K hK
          go_wp2_with fail
          refine hK _ _ (bw_alloc hb6) ?_
          clear hK
          refine RZ.chunk (f := 2) [15] (by kernel_rfl) ?_
          ((simp only [pickOps, List.filterMap, List.getElem?_toArray, List.getElem?_cons_zero, List.getElem?_cons_succ]); (repeat (go_big_quiet_step (fail))); refine wpQuiet_nil ?_)
          refine RZ.single 16 rfl (by kernel_rfl) (by omega) ?_
          intro K hK
          go_wp2_with fail
          refine hK _ _ (bw_alloc hb6) ?_
          clear hK
          refine RZ.chunk (f := 0) [17] (by kernel_rfl) ?_
          ((simp only [pickOps, List.filterMap, List.getElem?_toArray, List.getElem?_cons_zero, List.getElem?_cons_succ]); (repeat (go_big_quiet_step (fail))); refine wpQuiet_nil ?_)
          (refine RZ.done (by kernel_rfl) (by kernel_rfl) ?_)
          go_wp2_with fail
          go_meet
          exact ⟨rfl, ⟨_, _, _, rfl, Box.new _ _ _⟩, bw_alloc hb6'⟩
        · intro K hK
          go_wp2_with fail
          refine hK _ _ (bw_alloc (Below.refl _ _)) ?_
          clear hK
          generalize hW : World.drew (World.alloc _ _) = W2
          have hbz : Below wr.drew.heap.size wr.drew W2 := by rw [← hW]; exact bw_alloc (Below.refl _ _)
          have hbz2 : Below wr.heap.size wr W2 := below_step (Below.refl _ _).drew hbz
          have byz : Box W2 wr.heap.size [.string ⟨#[]⟩, .bool false, .slice none 0 0, .string ⟨#[]⟩] 98 := by rw [← hW]; exact (Box.new _ _ _).drew
          clear hW
          refine RZ.single 9 rfl (by kernel_rfl) (by omega) ?_
          intro K hK
          go_wp2_with fail
          refine (HLK.out _ (below_step hbw hbz2)).mono ?_
          rintro e w6 ⟨hR, hb6⟩
          have hb7 := below_step hbz hb6
          have hb7' : Below wr.heap.size wr w6 := below_step hbz2 hb6
          have by6 := byz.mono hb6
          obtain ⟨hpl, nm, A7, c7, rfl⟩ := (hR.toV hcs.out.2.2).yes g HSG.out
          go_wp2_with fail
          refine hK _ _ hb7 ?_
          clear hK
          refine RZ.chunk (f := 2) [10, 11, 12, 13, 15] (by kernel_rfl) ?_
          ((simp only [pickOps, List.filterMap, List.getElem?_toArray, List.getElem?_cons_zero, List.getElem?_cons_succ]); (repeat (go_big_quiet_step (fail))); refine wpQuiet_nil ?_)
          have yl6 := by6.lt
          have yf := fun i => by6.free i
          have y0 := by6.cell 0 rfl
          have y1 := by6.cell 1 rfl
          have y2 := by6.cell 2 rfl
          have y3 := by6.cell 3 rfl
          obtain ⟨by9, hg9⟩ := by6.store4 (.string g.name) (.bool g.static) (.slice A7 g.params.length c7) (.string g.result)
          have hb9 := hb7'.grown hg9 hb7'.size (fun k hk => by injection hk with hk; omega)
          have hb9d := hb7.grown hg9 hb7.size (fun k hk => by injection hk with hk; have : wr.drew.heap.size = wr.heap.size := rfl; omega)
          refine RZ.single 16 rfl (by kernel_rfl) (by omega) ?_
          intro K hK
          go_wp2_with fail
          refine hK _ _ hb9d ?_
          clear hK
          refine RZ.chunk (f := 0) [17] (by kernel_rfl) ?_
          ((simp only [pickOps, List.filterMap, List.getElem?_toArray, List.getElem?_cons_zero, List.getElem?_cons_succ]); (repeat (go_big_quiet_step (fail))); refine wpQuiet_nil ?_)
          (refine RZ.done (by kernel_rfl) (by kernel_rfl) ?_)
          go_wp2_with fail
          go_meet
          exact ⟨rfl, ⟨_, _, _, rfl, by9⟩, hb9⟩
      case rest =>
        obtain ⟨rfl, ⟨bG, AG, cG, rfl, bg⟩, hbx⟩ := hcut
        clear h0 hl0 p0 p4 pl d0 d1 d2
        have g1 := bg.cell 1 rfl
        have gl := bg.lt
        cases hst : g.static with
        | true =>
          have HB : Hid (r = 6) := HHIT.out (by rw [HF2.out, hst, if_pos rfl])
          rw [hst] at g1
          go_wp2_with fail
          go_ret
          exact ⟨by rw [HB.out]; rfl, below_step hbw hbx⟩
        | false =>
          have HE : Hid (firstE (fitMF cs cl mvs) (k + 1) = 0) := firstE_pass HN.out (by rw [HF2.out, hst, if_neg (by simp)])
          rw [hst] at g1
          go_wp2_with fail
          go_roundw
          case rel => exact ⟨k + 1, by omega, by go_num, HE, bh.mono hbx, bx.mono hbx, below_step hbw hbx⟩
          case measure => simp [intOf]; omega
end Go.Proofs.YthabojhnliomnaaGreatDoor
