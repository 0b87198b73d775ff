/-
  Chapter 10: the walk of the reference's Of.
-/
import Derived.Test.YtafincpkehlcfaaOfC
namespace Go.Proofs.Ytafincpkehlcfaa
open Go.RowKit
set_option linter.unusedVariables false

set_option maxRecDepth 100000 in
set_option maxHeartbeats 4000000 in
theorem refOf_any (A : Option Addr) (c : Nat) (cs : List SCls) (w : World) (hs : Sl Lay.sCls w A cs) (hok : Hid (SrcOk cs)) :
    Calls Try.prog 6 #[.agg #[.slice A cs.length c]] w fun e w' => RetH cs w' e ∧ Below w.heap.size w w' := by
  have hl : cs.length ≤ 1759218604442 := by have := hok.out.1; omega
  go_enter Try.func6, Try.ntmps6
  go_upto_region 2 with fail
  generalize hW : World.alloc _ _ = W0
  have hin : InSrc w w.heap.size A c cs 0 W0 := by
    rw [← hW]
    exact ⟨((Box.new _ _ _).alloc _).alloc _, (Box.at (by simp)).alloc _, ⟨none, 0, 0, [], Box.at (by simp), Own.nil, ClssAt.nil⟩, (by repeat (first | assumption | exact Below.refl _ _ | apply bw_alloc | apply bw_drew | apply bw_drewN | apply bw_later | apply bw_step))⟩
  clear hW
  have x0 := hin.b0.cell 0 rfl
  have hbl := hin.b0.lt
  go_wp2_with fail
  go_loopw [4] (fun i wr => ∃ k : Nat, k ≤ cs.length ∧ i = .int .i64 k ∧ InSrc w w.heap.size A c cs k wr) (fun i _ => cs.length - (intOf i).toNat)
  case atStart => exact ⟨0, Nat.zero_le _, rfl, hin⟩
  case round =>
    clear hin x0 hbl
    obtain ⟨k, hk, rfl, hin⟩ := hrel
    have sx0 := hin.b0.cell 0 rfl
    have sxl := hin.b0.lt
    by_cases hlt : k < cs.length
    case neg =>
      have HK : Hid (cs.take k = cs) := List.take_of_length_le (by omega)
      obtain ⟨A', n', c', rcs, hbh, hcl, hcat⟩ := hin.b2
      rw [HK.out] at hcat
      have hb1 := hin.b1
      have hgs := grown_set wr (w.heap.size + 1) 0 (.slice A' n' c')
      have hcat2 := hcat.keptTy hb1.rowTy (by decide) (by decide) (by decide) hgs
      have hcl2 := hcl.kept_box hb1 (by decide) hgs
      obtain ⟨A3, c3, hv, hc3, hs3⟩ := hcat2.sl hcl2
      rw [List.length_map] at hv hc3
      injection hv with h1 h2 h3
      subst h1 h2 h3
      have hbe : Below w.heap.size w (wr.setCell ⟨w.heap.size + 1, 0, none⟩ (.slice A' cs.length c')) := hin.bel.setCell (by simp) _
      have q0 : (wr.setCell ⟨w.heap.size + 1, 0, none⟩ (.slice A' cs.length c')).cell? ⟨w.heap.size + 1, 0, none⟩ = some (.slice A' cs.length c') := (hb1.set 0 _).cell 0 rfl
      have hbh0 := hbh.cell 0 rfl
      have hbl := hbh.lt
      have hb1l := hb1.lt
      have hb10 := hb1.cell 0 rfl
      have hb1f := fun i => hb1.free i
      go_wp2_with fail
      refine bodyPost_ret (v := .agg #[.slice A' cs.length c']) (by simp [results, Try.results6, go_sem, q0]) rfl ⟨⟨A', c', rfl, hc3, ?_⟩, ?_⟩
      · exact hs3
      · exact hbe
    obtain ⟨b, o, A2, c2, A3, c3, eA, hb, d0, d1, d2, d3, hc2, hs2, hc3, hs3⟩ := (hs.mono hin.bel).sCls_at hlt
    subst eA
    have HOK : Hid (SClsOk cs[k]) := hok.out.2 _ (List.getElem_mem hlt)
    go_upto_region 6 with fail
    generalize hW : World.alloc _ _ = W1
    have hb1 : Below wr.heap.size wr W1 := by rw [← hW]; exact (by repeat (first | assumption | exact Below.refl _ _ | apply bw_alloc | apply bw_drew | apply bw_drewN | apply bw_later | apply bw_step))
    have bc1 : Box W1 wr.heap.size [.string cs[k].name, .string cs[k].super, .slice A2 cs[k].fields.length c2, .slice A3 cs[k].methods.length c3] 44 := by rw [← hW]; exact Box.new _ _ _
    clear hW
    have lc1 := bc1.lt
    have y0 := bc1.cell 0 rfl
    have y1 := bc1.cell 1 rfl
    have y2 := bc1.cell 2 rfl
    have y3 := bc1.cell 3 rfl
    have hs2' := hs2.mono hb1
    have hfl : cs[k].fields.length * 32 ≤ 140737488355328 := HOK.out.1
    clear d0 d1 d2 d3 hb
    go_cut [6] (fun p6 wx => ∃ bd, p6 = .pointer (some ⟨bd, 0, none⟩) ∧ wr.heap.size < bd ∧ InCls wr wr.heap.size bd cs[k] A2 A3 c2 c3 0 wx)
    case first =>
      refine wp_region_RZ 11 (by kernel_rfl) (by kernel_rfl) ?_
      refine RZ.chunk (f := 5) [0, 1, 2, 3, 5, 6] (by kernel_rfl) ?_
      ((simp only [pickOps, List.filterMap, List.getElem?_toArray, List.getElem?_cons_zero, List.getElem?_cons_succ]); (repeat (go_big_quiet_step (fail))); refine wpQuiet_nil ?_)
      refine RZ.both 4 9 rfl rfl (by kernel_rfl) (by omega) (by omega) ?_ ?_
      · intro K hK
        go_wp2_with fail
        refine hK _ _ (bw_alloc (Below.refl _ _)) ?_
        clear hK
        generalize hW : World.drew (World.alloc _ _) = W2
        have hb2 : Below W1.heap.size W1 W2 := by rw [← hW]; exact (by repeat (first | assumption | exact Below.refl _ _ | apply bw_alloc | apply bw_drew | apply bw_drewN | apply bw_later | apply bw_step))
        have ho2 : Own cellsFld 2 W1.heap.size 37 W2 (.slice (some ⟨W1.heap.size, 0, none⟩) 0 0) ([] : List Fld) := by
          rw [← hW]
          exact (Own.lit W1 #[] [] (Nat.le_refl _) (by decide) rfl rfl).mono (bw_drew (Below.refl _ _))
        have hz2 : W1.heap.size < W2.heap.size := by rw [← hW]; simp
        clear hW
        refine RZ.both 7 9 rfl rfl (by kernel_rfl) (by omega) (by omega) ?_ ?_
        · intro K hK
          obtain ⟨v', w', hrun, ho', hb', hg', hsz'⟩ := run_pushAll (L := Lay.fld) fldsTy cellsFld_ok 32 ho2 (c := c2) (fun x vs h => h) rfl (hs2'.mono hb2) (by unfold maxLen; simp; omega) (by simp; omega) (by omega)
          obtain ⟨AF, nF, cF, rfl⟩ := ho'.isSlice
          refine wpList_appendRunD 31 rfl rfl (.tmp 28) (.tmp 30) 32 rfl rfl rfl hrun ?_
          simp only [List.setIfInBounds_toArray, List.set_cons_succ, List.set_cons_zero]
          go_wp2_with fail
          have hbx := hb2.trans hb'
          refine hK _ _ (below_undrewZ hbx) ?_
          clear hK
          refine RZ.chunk (f := 2) [8] (by kernel_rfl) ?_
          ((simp only [pickOps, List.filterMap, List.getElem?_toArray, List.getElem?_cons_zero, List.getElem?_cons_succ]); (repeat (go_big_quiet_step (fail))); refine wpQuiet_nil ?_)
          refine RZ.single 9 rfl (by kernel_rfl) (by omega) ?_
          intro K hK
          go_wp2_with fail
          refine hK _ _ (below_undrewZ (bw_alloc hbx)) ?_
          clear hK
          refine RZ.single 10 rfl (by kernel_rfl) (by omega) ?_
          intro K hK
          go_wp2_with fail
          refine hK _ _ (below_undrewZ (bw_alloc hbx)) ?_
          clear hK
          (refine RZ.done (by kernel_rfl) (by kernel_rfl) ?_)
          go_wp2_with fail
          go_meet
          have h7 := hbx.size
          have h8 := hb1.size
          have hby := below_step hb1 (bw_alloc (o := .cells #[.string cs[k].name, .string cs[k].super, .slice AF nF cF, .slice none 0 0] 35) hbx)
          exact ⟨_, rfl, by omega, ⟨(bc1.mono hbx).alloc _, ⟨AF, nF, cF, none, 0, 0, Box.new _ _ _, (ho'.base_le (by omega)).alloc _, [], Own.nil, SgsAt.nil⟩, hby⟩⟩
        · intro K hK
          go_wp2_with fail
          refine hK _ _ (below_undrewZ (bw_alloc hb2)) ?_
          clear hK
          generalize hW : World.alloc W2 _ = W3
          have hb3 : Below W1.heap.size W1 W3 := by rw [← hW]; exact bw_alloc hb2
          have by3 : Box W3 W2.heap.size [.string ⟨#[]⟩, .string ⟨#[]⟩, .slice none 0 0, .slice none 0 0] 35 := by rw [← hW]; exact Box.new _ _ _
          have ho3 : Own cellsFld 2 W1.heap.size 37 W3 (.slice (some ⟨W1.heap.size, 0, none⟩) 0 0) ([] : List Fld) := by rw [← hW]; exact ho2.alloc _
          clear hW
          refine RZ.single 7 rfl (by kernel_rfl) (by omega) ?_
          intro K hK
          have hz3 := hb3.size
          obtain ⟨v', w', hrun, ho', hb', hg', hsz'⟩ := run_pushAll (L := Lay.fld) fldsTy cellsFld_ok 32 ho3 (c := c2) (fun x vs h => h) rfl (hs2'.mono hb3) (by unfold maxLen; simp; omega) (by simp; omega) (by omega)
          obtain ⟨AF, nF, cF, rfl⟩ := ho'.isSlice
          refine wpList_appendRunD 31 rfl rfl (.tmp 28) (.tmp 30) 32 rfl rfl rfl hrun ?_
          simp only [List.setIfInBounds_toArray, List.set_cons_succ, List.set_cons_zero]
          go_wp2_with fail
          have hbx := hb3.trans hb'
          have by6 := by3.grown hg' (ho3.ne_box by3 (by decide))
          refine hK _ _ (below_undrewZ hbx) ?_
          clear hK
          refine RZ.chunk (f := 1) [8] (by kernel_rfl) ?_
          ((simp only [pickOps, List.filterMap, List.getElem?_toArray, List.getElem?_cons_zero, List.getElem?_cons_succ]); (repeat (go_big_quiet_step (fail))); refine wpQuiet_nil ?_)
          have yl6 := by6.lt
          have yf := fun i => by6.free i
          have z0 := by6.cell 0 rfl
          have z1 := by6.cell 1 rfl
          have z2 := by6.cell 2 rfl
          have z3 := by6.cell 3 rfl
          obtain ⟨by9, hg9⟩ := by6.store4 (.string cs[k].name) (.string cs[k].super) (.slice AF nF cF) (.slice none 0 0)
          have hb9 := hbx.grown hg9 hbx.size (fun k hk => by injection hk with hk; omega)
          refine RZ.single 10 rfl (by kernel_rfl) (by omega) ?_
          intro K hK
          go_wp2_with fail
          refine hK _ _ (below_undrewZ hb9) ?_
          clear hK
          (refine RZ.done (by kernel_rfl) (by kernel_rfl) ?_)
          go_wp2_with fail
          go_meet
          have h8 := hb1.size
          exact ⟨_, rfl, by omega, ⟨((bc1.mono hbx).grown hg9 (by simp; omega)), ⟨AF, nF, cF, none, 0, 0, by9, (ho'.base_le (by omega)).kept_box by6 (by decide) hg9, [], Own.nil, SgsAt.nil⟩, below_step hb1 hb9⟩⟩
      · intro K hK
        go_wp2_with fail
        refine hK _ _ (bw_alloc (Below.refl _ _)) ?_
        clear hK
        generalize hW : World.drew (World.alloc _ _) = W2
        have hb2 : Below W1.heap.size W1 W2 := by rw [← hW]; exact (by repeat (first | assumption | exact Below.refl _ _ | apply bw_alloc | apply bw_drew | apply bw_drewN | apply bw_later | apply bw_step))
        have by2 : Box W2 W1.heap.size [.string ⟨#[]⟩, .string ⟨#[]⟩, .slice none 0 0, .slice none 0 0] 35 := by rw [← hW]; exact (Box.new _ _ _).drew
        clear hW
        have hz2 := hb2.size
        refine RZ.single 4 rfl (by kernel_rfl) (by omega) ?_
        intro K hK
        go_wp2_with fail
        refine hK _ _ (below_undrewZ (bw_alloc hb2)) ?_
        clear hK
        generalize hW : World.alloc W2 _ = W3
        have hb3 : Below W1.heap.size W1 W3 := by rw [← hW]; exact bw_alloc hb2
        have by3 : Box W3 W1.heap.size [.string ⟨#[]⟩, .string ⟨#[]⟩, .slice none 0 0, .slice none 0 0] 35 := by rw [← hW]; exact by2.alloc _
        have ho3 : Own cellsFld 2 W1.heap.size 37 W3 (.slice (some ⟨W2.heap.size, 0, none⟩) 0 0) ([] : List Fld) := by rw [← hW]; exact Own.lit W2 #[] [] hz2 (by decide) rfl rfl
        clear hW
        refine RZ.single 7 rfl (by kernel_rfl) (by omega) ?_
        intro K hK
        have hz3 := hb3.size
        obtain ⟨v', w', hrun, ho', hb', hg', hsz'⟩ := run_pushAll (L := Lay.fld) fldsTy cellsFld_ok 32 ho3 (c := c2) (fun x vs h => h) rfl (hs2'.mono hb3) (by unfold maxLen; simp; omega) (by simp; omega) (by omega)
        obtain ⟨AF, nF, cF, rfl⟩ := ho'.isSlice
        refine wpList_appendRunD 31 rfl rfl (.tmp 28) (.tmp 30) 32 rfl rfl rfl hrun ?_
        simp only [List.setIfInBounds_toArray, List.set_cons_succ, List.set_cons_zero]
        go_wp2_with fail
        have hbx := hb3.trans hb'
        have by6 := by3.grown hg' (ho3.ne_box by3 (by decide))
        refine hK _ _ (below_undrewZ hbx) ?_
        clear hK
        refine RZ.chunk (f := 1) [8] (by kernel_rfl) ?_
        ((simp only [pickOps, List.filterMap, List.getElem?_toArray, List.getElem?_cons_zero, List.getElem?_cons_succ]); (repeat (go_big_quiet_step (fail))); refine wpQuiet_nil ?_)
        have yl6 := by6.lt
        have yf := fun i => by6.free i
        have z0 := by6.cell 0 rfl
        have z1 := by6.cell 1 rfl
        have z2 := by6.cell 2 rfl
        have z3 := by6.cell 3 rfl
        obtain ⟨by9, hg9⟩ := by6.store4 (.string cs[k].name) (.string cs[k].super) (.slice AF nF cF) (.slice none 0 0)
        have hb9 := hbx.grown hg9 hbx.size (fun k hk => by injection hk with hk; omega)
        refine RZ.single 10 rfl (by kernel_rfl) (by omega) ?_
        intro K hK
        go_wp2_with fail
        refine hK _ _ (below_undrewZ hb9) ?_
        clear hK
        (refine RZ.done (by kernel_rfl) (by kernel_rfl) ?_)
        go_wp2_with fail
        go_meet
        have h8 := hb1.size
        exact ⟨_, rfl, by omega, ⟨((bc1.mono hbx).grown hg9 (by simp; omega)), ⟨AF, nF, cF, none, 0, 0, by9, (ho'.base_le (by omega)).kept_box by6 (by decide) hg9, [], Own.nil, SgsAt.nil⟩, below_step hb1 hb9⟩⟩
    case rest =>
      obtain ⟨bd, rfl, hbd, hc⟩ := hcut
      clear y0 y1 y2 y3 lc1 bc1 hs2' hfl
      have hbc := hc.bc.lt
      have y3 := hc.bc.cell 3 rfl
      go_wp2_with fail
      obtain ⟨wc, rfl⟩ : ∃ wc : World, wc = wr := ⟨_, rfl⟩
      go_loopw [7] (fun i wq => ∃ j : Nat, j ≤ cs[k].methods.length ∧ i = .int .i64 j ∧ InCls wc wc.heap.size bd cs[k] A2 A3 c2 c3 j wq) (fun i _ => cs[k].methods.length - (intOf i).toNat)
      case atStart => exact ⟨0, Nat.zero_le _, rfl, hc⟩
      case round =>
        clear hc hbc y3
        obtain ⟨j, hj, rfl, hc⟩ := hrel
        have cy3 := hc.bc.cell 3 rfl
        have cyl := hc.bc.lt
        have hml : cs[k].methods.length ≤ 2199023255552 := by have := HOK.out.2.1; omega
        by_cases hjt : j < cs[k].methods.length
        case neg =>
          have HJ : Hid (j = cs[k].methods.length) := by show j = _; omega
          rw [HJ.out] at hc
          obtain ⟨AF, nF, cF, AM, nM, cM, A', n', c', hbd1, hbh1, v', w', hrun, hbh2, ⟨B, q, d, rfl⟩, hnext⟩ := hin.push hlt hc (Nat.le_refl _) hok.out
          have e0 := hbd1.cell 0 rfl
          have e1 := hbd1.cell 1 rfl
          have e2 := hbd1.cell 2 rfl
          have e3 := hbd1.cell 3 rfl
          have el := hbd1.lt
          have f0 := hbh1.cell 0 rfl
          have fl := hbh1.lt
          have g0 := hbh2.cell 0 rfl
          have gl := hbh2.lt
          have gf := fun i => hbh2.free i
          clear hc
          go_wp2_with (at_builtin; refine wpList_appendRun rfl (.tmp 77) (.tmp 79) 26 rfl rfl rfl hrun ?_)
          go_roundw
          case rel => exact ⟨k + 1, by omega, by go_num, hnext⟩
          case measure => simp [intOf]; omega
        obtain ⟨b1, o1, Ap, cp, eM, hb1', d0, d1, d2, d3, d4, hcp, hsp⟩ := (hs3.mono hc.bel).mth_at hjt
        subst eM
        have HMO : Hid (MthOk cs[k].methods[j]) := HOK.out.2.2 _ (List.getElem_mem hjt)
        go_upto_region 12 with fail
        generalize hW : World.alloc _ _ = W3
        have hb3 : Below wr.heap.size wr W3 := by rw [← hW]; exact (by repeat (first | assumption | exact Below.refl _ _ | apply bw_alloc | apply bw_drew | apply bw_drewN | apply bw_later | apply bw_step))
        have hm : InMth wr wr.heap.size (wr.heap.size + 1) cs[k].methods[j] Ap cp 0 W3 := by
          rw [← hW]
          exact ⟨(Box.new _ _ _).alloc _, ⟨none, 0, 0, Box.at (by simp), Own.nil⟩, (by repeat (first | assumption | exact Below.refl _ _ | apply bw_alloc | apply bw_drew | apply bw_drewN | apply bw_later | apply bw_step))⟩
        clear hW d0 d1 d2 d3 d4 hb1'
        have hbm := hm.bm.lt
        have y2 := hm.bm.cell 2 rfl
        go_wp2_with fail
        obtain ⟨wm, rfl⟩ : ∃ wm : World, wm = wr := ⟨_, rfl⟩
        go_loopw [10] (fun i wp => ∃ t : Nat, t ≤ cs[k].methods[j].params.length ∧ i = .int .i64 t ∧ InMth wm wm.heap.size (wm.heap.size + 1) cs[k].methods[j] Ap cp t wp) (fun i _ => cs[k].methods[j].params.length - (intOf i).toNat)
        case atStart => exact ⟨0, Nat.zero_le _, rfl, hm⟩
        case round =>
          clear hm hbm y2
          obtain ⟨t, ht, rfl, hm⟩ := hrel
          have bml := hm.bm.lt
          have bm2 := hm.bm.cell 2 rfl
          have hpl : cs[k].methods[j].params.length ≤ 8796093022208 := by have := HMO.out; unfold MthOk at this; omega
          by_cases htt : t < cs[k].methods[j].params.length
          · obtain ⟨b2, o2, eP, hb2, f0, f1⟩ := (hsp.mono hm.bel).fld_at htt
            subst eP
            obtain ⟨A, n, c', hbs1, v', w', hrun, hbs2, ⟨B, q, d, rfl⟩, hbw', hnext⟩ := hm.pushW (W1 := wr.drew) ⟨Nat.le_refl _, by omega⟩ htt HMO.out (bw_drew (Below.refl _ _))
            have el : wm.heap.size + 1 < wr.heap.size := by obtain ⟨_, _, _, h, _⟩ := hm.bs; exact h.lt
            have e2 : wr.cell? ⟨wm.heap.size + 1, 2, none⟩ = some (.slice A n c') := hbs1.cell 2 rfl
            have g2 := hbs2.cell 2 rfl
            have gl := hbs2.lt
            have gf := fun i => hbs2.free i
            have hmz := hm.bel.size
            go_wp2_with fail
            refine wp_region_RW 9 (by kernel_rfl) (by kernel_rfl) ?_
            refine RW.chunk (f := 1) [0, 1, 2, 3, 4, 5, 6, 7] (by kernel_rfl) ?_
            ((simp only [pickOps, List.filterMap, List.getElem?_toArray, List.getElem?_cons_zero, List.getElem?_cons_succ]); (repeat (go_big_quiet_step (fail))); refine wpQuiet_nil ?_)
            refine RW.single 8 rfl (by kernel_rfl) (by omega) ?_
            intro K hK
            go_wp2_with fail
            refine hK _ _ (bw_alloc (Below.refl _ _)) ?_
            clear hK
            (refine RW.tail (by kernel_rfl) ?_; (simp only [List.drop_succ_cons, List.drop_zero]))
            go_wp2_with (at_builtin; refine wpList_appendRun rfl (.tmp 60) (.tmp 67) 38 rfl rfl rfl hrun ?_)
            go_roundw
            case rel => exact ⟨t + 1, by omega, by go_num, hnext⟩
            case measure => simp [intOf]; omega
          · have HT : Hid (t = cs[k].methods[j].params.length) := by show t = _; omega
            rw [HT.out] at hm
            obtain ⟨A, n, c', AF, nF, cF, AM, nM, cM, hbs1, hbd1, v', w', hrun, hbd2, ⟨B, q, d, rfl⟩, hnext⟩ := hc.push hjt hm ⟨Nat.le_refl _, by omega, by omega⟩ HOK.out
            have e0 := hbs1.cell 0 rfl
            have e1 := hbs1.cell 1 rfl
            have e2 := hbs1.cell 2 rfl
            have e3 := hbs1.cell 3 rfl
            have el := hbs1.lt
            have f3 := hbd1.cell 3 rfl
            have fl := hbd1.lt
            have g3 := hbd2.cell 3 rfl
            have gl := hbd2.lt
            have gf := fun i => hbd2.free i
            clear hm
            go_wp2_with (at_builtin; refine wpList_appendRun rfl (.tmp 71) (.tmp 73) 33 rfl rfl rfl hrun ?_)
            go_roundw
            case rel => exact ⟨j + 1, by omega, by go_num, hnext⟩
            case measure => simp [intOf]; omega
end Go.Proofs.Ytafincpkehlcfaa
