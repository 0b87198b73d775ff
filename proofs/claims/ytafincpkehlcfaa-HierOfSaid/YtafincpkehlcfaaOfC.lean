/-
  Chapter 10: the walk of hier.Of.
-/
import Derived.Test.YtafincpkehlcfaaOfB
namespace Go.Proofs.Ytafincpkehlcfaa
open Go.RowKit
set_option linter.unusedVariables false

theorem below_undrewZ {w W : World} (h : Below w.heap.size w W) : Below w.drew.heap.size w.drew W := ⟨h.os, h.tape, h.output, h.size, h.block⟩
/-- A hierarchy in memory. -/
def RetH (cs : List SCls) (w' : World) (e : Ending) : Prop := ∃ A c, e = .returned (.agg #[.slice A cs.length c]) ∧ cs.length ≤ c ∧ Sl Lay.cls w' A (cs.map ofC)
set_option maxRecDepth 100000 in
set_option maxHeartbeats 4000000 in
theorem of_any (A : Option Addr) (c : Nat) (cs : List SCls) (w : World) (hs : Sl Lay.sCls w A cs) (hok : Hid (SrcOk cs)) :
    Calls Try.prog 5 #[.agg #[.slice A cs.length c]] w fun e w' => RetH cs w' e ∧ Below w.heap.size w w' := by
  have hl : cs.length ≤ 1759218604442 := by have := hok.out.1; omega
  go_enter Try.func5, Try.ntmps5
  go_upto_region 2 with fail
  generalize hW : World.alloc _ _ = W0
  have hin : InSrc w w.heap.size A c cs 0 W0 := by
    rw [← hW]
    exact ⟨((Box.new _ _ _).alloc _).alloc _, (Box.at (by simp)).alloc _, ⟨none, 0, 0, [], Box.at (by simp), Own.nil, ClssAt.nil⟩, (by repeat (first | assumption | exact Below.refl _ _ | apply bw_alloc | apply bw_drew | apply bw_drewN | apply bw_later | apply bw_step))⟩
  clear hW
  have x0 := hin.b0.cell 0 rfl
  have hbl := hin.b0.lt
  go_wp2_with fail
  go_loopw [15] (fun i wr => ∃ k : Nat, k ≤ cs.length ∧ i = .int .i64 k ∧ InSrc w w.heap.size A c cs k wr) (fun i _ => cs.length - (intOf i).toNat)
  case atStart => exact ⟨0, Nat.zero_le _, rfl, hin⟩
  case round =>
    clear hin x0 hbl
    obtain ⟨k, hk, rfl, hin⟩ := hrel
    by_cases hlt : k < cs.length
    case neg =>
      have HK : Hid (cs.take k = cs) := List.take_of_length_le (by omega)
      obtain ⟨A', n', c', rcs, hbh, hcl, hcat⟩ := hin.b2
      rw [HK.out] at hcat
      have hb1 := hin.b1
      have hgs := grown_set wr (w.heap.size + 1) 0 (.slice A' n' c')
      have hcat2 := hcat.keptTy hb1.rowTy (by decide) (by decide) (by decide) hgs
      have hcl2 := hcl.kept_box hb1 (by decide) hgs
      obtain ⟨A3, c3, hv, hc3, hs3⟩ := hcat2.sl hcl2
      rw [List.length_map] at hv hc3
      injection hv with h1 h2 h3
      subst h1 h2 h3
      have hbe : Below w.heap.size w (wr.setCell ⟨w.heap.size + 1, 0, none⟩ (.slice A' cs.length c')) := hin.bel.setCell (by simp) _
      have q0 : (wr.setCell ⟨w.heap.size + 1, 0, none⟩ (.slice A' cs.length c')).cell? ⟨w.heap.size + 1, 0, none⟩ = some (.slice A' cs.length c') := (hb1.set 0 _).cell 0 rfl
      have hbh0 := hbh.cell 0 rfl
      have hbl := hbh.lt
      have hb1l := hb1.lt
      have hb10 := hb1.cell 0 rfl
      have hb1f := fun i => hb1.free i
      go_wp2_with fail
      refine bodyPost_ret (v := .agg #[.slice A' cs.length c']) (by simp [results, Try.results5, go_sem, q0]) rfl ⟨⟨A', c', rfl, hc3, ?_⟩, ?_⟩
      · exact hs3
      · exact hbe
    obtain ⟨b, o, A2, c2, A3, c3, eA, hb, d0, d1, d2, d3, hc2, hs2, hc3, hs3⟩ := (hs.mono hin.bel).sCls_at hlt
    subst eA
    have HOK : Hid (SClsOk cs[k]) := hok.out.2 _ (List.getElem_mem hlt)
    go_upto_region 5 with fail
    generalize hW : World.alloc _ _ = W1
    have hb1 : Below wr.heap.size wr W1 := by rw [← hW]; exact (by repeat (first | assumption | exact Below.refl _ _ | apply bw_alloc | apply bw_drew | apply bw_drewN | apply bw_later | apply bw_step))
    have bc1 : Box W1 wr.heap.size [.string cs[k].name, .string cs[k].super, .slice A2 cs[k].fields.length c2, .slice A3 cs[k].methods.length c3] 44 := by rw [← hW]; exact Box.new _ _ _
    clear hW
    have lc1 := bc1.lt
    have y0 := bc1.cell 0 rfl
    have y1 := bc1.cell 1 rfl
    have y2 := bc1.cell 2 rfl
    have y3 := bc1.cell 3 rfl
    have hs2' := hs2.mono hb1
    have hfl : cs[k].fields.length * 32 ≤ 140737488355328 := HOK.out.1
    clear d0 d1 d2 d3 hb
    go_cut [6] (fun p6 wx => ∃ bd, p6 = .pointer (some ⟨bd, 0, none⟩) ∧ wr.heap.size < bd ∧ InCls wr wr.heap.size bd cs[k] A2 A3 c2 c3 0 wx)
    case first =>
      refine wp_region_RZ 10 (by kernel_rfl) (by kernel_rfl) ?_
      refine RZ.chunk (f := 4) [0, 1, 2, 3, 4, 5] (by kernel_rfl) ?_
      ((simp only [pickOps, List.filterMap, List.getElem?_toArray, List.getElem?_cons_zero, List.getElem?_cons_succ]); (repeat (go_big_quiet_step (fail))); refine wpQuiet_nil ?_)
      refine RZ.both 6 8 rfl rfl (by kernel_rfl) (by omega) (by omega) ?_ ?_
      · intro K hK
        go_wp2_with fail
        refine (cloneFld_any A2 c2 cs[k].fields _ hfl (hs2'.mono (bw_drew (Below.refl _ _)))).mono ?_
        rintro e w6 ⟨⟨vF, rfl, hoF⟩, hb6⟩
        obtain ⟨AF, nF, cF, rfl⟩ := hoF.isSlice
        go_wp2_with fail
        refine hK _ _ hb6 ?_
        clear hK
        refine RZ.chunk (f := 2) [7] (by kernel_rfl) ?_
        ((simp only [pickOps, List.filterMap, List.getElem?_toArray, List.getElem?_cons_zero, List.getElem?_cons_succ]); (repeat (go_big_quiet_step (fail))); refine wpQuiet_nil ?_)
        refine RZ.single 8 rfl (by kernel_rfl) (by omega) ?_
        intro K hK
        go_wp2_with fail
        refine hK _ _ (bw_alloc hb6) ?_
        clear hK
        refine RZ.single 9 rfl (by kernel_rfl) (by omega) ?_
        intro K hK
        go_wp2_with fail
        refine hK _ _ (bw_alloc hb6) ?_
        clear hK
        (refine RZ.done (by kernel_rfl) (by kernel_rfl) ?_)
        go_wp2_with fail
        go_meet
        have hb6' : Below W1.heap.size W1 w6 := below_step (Below.refl _ _).drew hb6
        have h7 := hb6'.size
        have h8 := hb1.size
        have hbx := below_step hb1 (bw_alloc (o := .cells #[.string cs[k].name, .string cs[k].super, .slice AF nF cF, .slice none 0 0] 35) hb6')
        exact ⟨_, rfl, by omega, ⟨(bc1.mono hb6').alloc _, ⟨AF, nF, cF, none, 0, 0, Box.new _ _ _, (hoF.base_le (by show wr.heap.size ≤ W1.heap.size; omega)).alloc _, [], Own.nil, SgsAt.nil⟩, hbx⟩⟩
      · intro K hK
        go_wp2_with fail
        refine hK _ _ (bw_alloc (Below.refl _ _)) ?_
        clear hK
        generalize hW : World.drew (World.alloc _ _) = W2
        have hbz : Below W1.heap.size W1 W2 := by rw [← hW]; exact (by repeat (first | assumption | exact Below.refl _ _ | apply bw_alloc | apply bw_drew | apply bw_drewN | apply bw_later | apply bw_step))
        have byz : Box W2 W1.heap.size [.string ⟨#[]⟩, .string ⟨#[]⟩, .slice none 0 0, .slice none 0 0] 35 := by rw [← hW]; exact (Box.new _ _ _).drew
        clear hW
        refine RZ.single 6 rfl (by kernel_rfl) (by omega) ?_
        intro K hK
        go_wp2_with fail
        refine (cloneFld_any A2 c2 cs[k].fields _ hfl (hs2'.mono hbz)).mono ?_
        rintro e w6 ⟨⟨vF, rfl, hoF⟩, hb6⟩
        obtain ⟨AF, nF, cF, rfl⟩ := hoF.isSlice
        have hb7 := below_step hbz hb6
        go_wp2_with fail
        refine hK _ _ (below_undrewZ hb7) ?_
        clear hK
        refine RZ.chunk (f := 1) [7] (by kernel_rfl) ?_
        ((simp only [pickOps, List.filterMap, List.getElem?_toArray, List.getElem?_cons_zero, List.getElem?_cons_succ]); (repeat (go_big_quiet_step (fail))); refine wpQuiet_nil ?_)
        have by6 := byz.mono hb6
        have yl6 := by6.lt
        have yf := fun i => by6.free i
        have z0 := by6.cell 0 rfl
        have z1 := by6.cell 1 rfl
        have z2 := by6.cell 2 rfl
        have z3 := by6.cell 3 rfl
        obtain ⟨by9, hg9⟩ := by6.store4 (.string cs[k].name) (.string cs[k].super) (.slice AF nF cF) (.slice none 0 0)
        have hb9 := hb7.grown hg9 hb7.size (fun k hk => by injection hk with hk; omega)
        refine RZ.single 9 rfl (by kernel_rfl) (by omega) ?_
        intro K hK
        go_wp2_with fail
        refine hK _ _ (below_undrewZ hb9) ?_
        clear hK
        (refine RZ.done (by kernel_rfl) (by kernel_rfl) ?_)
        go_wp2_with fail
        go_meet
        have h8 := hb1.size
        have h9 := hbz.size
        exact ⟨_, rfl, by omega, ⟨((bc1.mono hb7).grown hg9 (by simp; omega)), ⟨AF, nF, cF, none, 0, 0, by9, (hoF.base_le (by omega)).kept_box by6 (by decide) hg9, [], Own.nil, SgsAt.nil⟩, below_step hb1 hb9⟩⟩
    case rest =>
      obtain ⟨bd, rfl, hbd, hc⟩ := hcut
      clear y0 y1 y2 y3 lc1 bc1 hs2' hfl
      have hbc := hc.bc.lt
      have y3 := hc.bc.cell 3 rfl
      go_wp2_with fail
      obtain ⟨wc, rfl⟩ : ∃ wc : World, wc = wr := ⟨_, rfl⟩
      go_loopw [30] (fun i wq => ∃ j : Nat, j ≤ cs[k].methods.length ∧ i = .int .i64 j ∧ InCls wc wc.heap.size bd cs[k] A2 A3 c2 c3 j wq) (fun i _ => cs[k].methods.length - (intOf i).toNat)
      case atStart => exact ⟨0, Nat.zero_le _, rfl, hc⟩
      case round =>
        clear hc hbc y3
        obtain ⟨j, hj, rfl, hc⟩ := hrel
        have hml : cs[k].methods.length ≤ 2199023255552 := by have := HOK.out.2.1; omega
        by_cases hjt : j < cs[k].methods.length
        case neg =>
          have HJ : Hid (j = cs[k].methods.length) := by show j = _; omega
          rw [HJ.out] at hc
          obtain ⟨AF, nF, cF, AM, nM, cM, A', n', c', hbd1, hbh1, v', w', hrun, hbh2, ⟨B, q, d, rfl⟩, hnext⟩ := hin.push hlt hc (Nat.le_refl _) hok.out
          have e0 := hbd1.cell 0 rfl
          have e1 := hbd1.cell 1 rfl
          have e2 := hbd1.cell 2 rfl
          have e3 := hbd1.cell 3 rfl
          have el := hbd1.lt
          have f0 := hbh1.cell 0 rfl
          have fl := hbh1.lt
          have g0 := hbh2.cell 0 rfl
          have gl := hbh2.lt
          have gf := fun i => hbh2.free i
          clear hc
          go_wp2_with (at_builtin; refine wpList_appendRun rfl (.tmp 64) (.tmp 66) 26 rfl rfl rfl hrun ?_)
          go_roundw
          case rel => exact ⟨k + 1, by omega, by go_num, hnext⟩
          case measure => simp [intOf]; omega
        obtain ⟨b1, o1, Ap, cp, eM, hb1', d0, d1, d2, d3, d4, hcp, hsp⟩ := (hs3.mono hc.bel).mth_at hjt
        subst eM
        have HMO : Hid (MthOk cs[k].methods[j]) := HOK.out.2.2 _ (List.getElem_mem hjt)
        go_upto_region 10 with fail
        generalize hW : World.alloc _ _ = W3
        have hb3 : Below wr.heap.size wr W3 := by rw [← hW]; exact (by repeat (first | assumption | exact Below.refl _ _ | apply bw_alloc | apply bw_drew | apply bw_drewN | apply bw_later | apply bw_step))
        have hm : InMth wr wr.heap.size (wr.heap.size + 1) cs[k].methods[j] Ap cp 0 W3 := by
          rw [← hW]
          exact ⟨(Box.new _ _ _).alloc _, ⟨none, 0, 0, Box.at (by simp), Own.nil⟩, (by repeat (first | assumption | exact Below.refl _ _ | apply bw_alloc | apply bw_drew | apply bw_drewN | apply bw_later | apply bw_step))⟩
        clear hW d0 d1 d2 d3 d4 hb1'
        have hbm := hm.bm.lt
        have y2 := hm.bm.cell 2 rfl
        go_wp2_with fail
        obtain ⟨wm, rfl⟩ : ∃ wm : World, wm = wr := ⟨_, rfl⟩
        go_loopw [44] (fun i wp => ∃ t : Nat, t ≤ cs[k].methods[j].params.length ∧ i = .int .i64 t ∧ InMth wm wm.heap.size (wm.heap.size + 1) cs[k].methods[j] Ap cp t wp) (fun i _ => cs[k].methods[j].params.length - (intOf i).toNat)
        case atStart => exact ⟨0, Nat.zero_le _, rfl, hm⟩
        case round =>
          clear hm hbm y2
          obtain ⟨t, ht, rfl, hm⟩ := hrel
          have hpl : cs[k].methods[j].params.length ≤ 8796093022208 := by have := HMO.out; unfold MthOk at this; omega
          by_cases htt : t < cs[k].methods[j].params.length
          · obtain ⟨b2, o2, eP, hb2, f0, f1⟩ := (hsp.mono hm.bel).fld_at htt
            subst eP
            obtain ⟨A, n, c', hbs1, v', w', hrun, hbs2, ⟨B, q, d, rfl⟩, hnext⟩ := hm.push ⟨Nat.le_refl _, by omega⟩ htt HMO.out (.cells #[.string cs[k].methods[j].params[t].name, .string cs[k].methods[j].params[t].typ] 37)
            have el : wm.heap.size + 1 < wr.heap.size := by obtain ⟨_, _, _, h, _⟩ := hm.bs; exact h.lt
            have e2 := hbs1.cell 2 rfl
            have g2 := hbs2.cell 2 rfl
            have gl := hbs2.lt
            have gf := fun i => hbs2.free i
            go_wp2_with (at_builtin; refine wpList_appendRun rfl (.tmp 49) (.tmp 52) 38 rfl rfl rfl hrun ?_)
            go_roundw
            case rel => exact ⟨t + 1, by omega, by go_num, hnext⟩
            case measure => simp [intOf]; omega
          · have HT : Hid (t = cs[k].methods[j].params.length) := by show t = _; omega
            rw [HT.out] at hm
            obtain ⟨A, n, c', AF, nF, cF, AM, nM, cM, hbs1, hbd1, v', w', hrun, hbd2, ⟨B, q, d, rfl⟩, hnext⟩ := hc.push hjt hm ⟨Nat.le_refl _, by omega, by omega⟩ HOK.out
            have e0 := hbs1.cell 0 rfl
            have e1 := hbs1.cell 1 rfl
            have e2 := hbs1.cell 2 rfl
            have e3 := hbs1.cell 3 rfl
            have el := hbs1.lt
            have f3 := hbd1.cell 3 rfl
            have fl := hbd1.lt
            have g3 := hbd2.cell 3 rfl
            have gl := hbd2.lt
            have gf := fun i => hbd2.free i
            clear hm
            go_wp2_with (at_builtin; refine wpList_appendRun rfl (.tmp 57) (.tmp 59) 33 rfl rfl rfl hrun ?_)
            go_roundw
            case rel => exact ⟨j + 1, by omega, by go_num, hnext⟩
            case measure => simp [intOf]; omega
end Go.Proofs.Ytafincpkehlcfaa
