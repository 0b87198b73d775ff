/- Chapter 15: the machine of package interp at the closed unit of the law: assign, leave, execute. Chapter 15: interp.Run at the closed unit of the law, with the input [7] and at most nine steps. Chapter 15: operators (the program's and the answer's). Chapter 15: the law's awake. Chapter 15: interp.Dispatch; the walks of InterpBin and InterpDispatch. -/
import Derived.Test.YtmhdambkchlilaaGreatDoorProg
import Derived.Test.YtmhdambkchlilaaGreatDoorJPz
import Derived.Test.YtmhdambkchlilaaGreatDoorJUs
import Derived.Test.YtmhdambkchlilaaGreatDoorJGa
import Derived.Test.YtmhdambkchlilaaGreatDoorJPq
namespace Go.Proofs.YtmhdambkchlilaaGreatDoor
open Go.RowKit
set_option linter.unusedVariables false
set_option maxRecDepth 100000
set_option maxHeartbeats 8000000
theorem Own.capLe {α : Type} {cells : α → List Value} {size base : Nat} {e : TypeId} {w : World} {g n c : Nat} {l : List α} (h : Own cells size base e w (.slice (some ⟨g,0,none⟩) n c) l) (hn : l.length = n) : n ≤ c := by
 rcases h.2 with ⟨h1,_⟩ | ⟨g',cap,cur,hv,_,_,hnc,_⟩
 ·cases h1
 ·injection hv with _ _ h3
  omega
theorem assign_v (w0 w : World) (gm gf cf gv cv : Nat) (AC : Option Addr) (cC : Nat) (AF : Option Addr) (cF : Nat) (gi : Nat) (s4 s5 : Value) (mk : Int) (vO : Value) (obs : List ROb) (en : Int) (AI : Option Addr) (cI : Nat) (hgi : gi < w0.heap.size) (hi : w0.cell? ⟨gi,0,none⟩ = some (.int .i64 7)) (H : St w0 w gm gf cf gv cv AC cC AF cF (.slice (some ⟨gi,0,none⟩) 1 1) s4 s5 1 0 (0,0,0) mk vO obs en) :
  Calls Tryz.prog 96 #[.pointer (some ⟨gm,0,none⟩),.pointer (some ⟨gf,0,none⟩),.agg #[.int .i64 5,.int .i64 0,.int .i64 0,.int .i64 0,.int .i64 0,.string ⟨#[]⟩,.string ⟨#[]⟩,.slice AI 0 cI,.int .i64 0,.int .i64 (-1)]] w fun e w' => e = .returned (.tuple #[]) ∧ St w0 w' gm gf cf gv cv AC cC AF cF (.slice (some ⟨gi,0,none⟩) 0 0) s4 s5 1 0 (1,7,0) mk vO obs en := by
 go_enter Tryz.func96,Tryz.ntmps96
 go_upto_region 1 with fail
 generalize hW : World.alloc _ _ = W1 at *
 have hb1 : Below w.heap.size w W1 := by rw [← hW]; exact (by repeat (first | assumption | exact Below.refl _ _ | apply bw_alloc | apply bw_drew | apply bw_drewN | apply bw_later | apply bw_step))
 have bc : Box W1 w.heap.size [.int .i64 5,.int .i64 0,.int .i64 0,.int .i64 0,.int .i64 0,.string ⟨#[]⟩,.string ⟨#[]⟩,.slice AI 0 cI,.int .i64 0,.int .i64 (-1)] 59 := by rw [← hW]; exact Box.new _ _ _
 clear hW
 have hB := H.hw.size
 replace H := H.mono hb1
 have h7 := keptC hi hgi H.hw
 have hg1 := Nat.lt_of_lt_of_le hgi H.hw.size
 have y0 := bc.cell 0 rfl
 have y1 := bc.cell 1 rfl
 have q3 := H.bm.cell 3 rfl
 have qf := fun i => H.bm.free i
 have ql := H.bm.lt
 have yl := bc.lt
 go_upto_region 15 with fail
 all_goals
  have hgs := grown_set W1 gm 3 (.slice (some ⟨gi,0,none⟩) 0 0)
  have hr := H.bm.rowTyI
  have H2 : St w0 (W1.setCell ⟨gm,3,none⟩ (.slice (some ⟨gi,0,none⟩) 0 0)) gm gf cf gv cv AC cC AF cF (.slice (some ⟨gi,0,none⟩) 0 0) s4 s5 1 0 (0,0,0) mk vO obs en :=
   ⟨H.hw.trans (below_row hgs H.hw.size (fun k hk => by injection hk with hk; have := H.hB; omega)),H.hB,H.sf,H.bm.set 3 _,H.bf.keptTyI hr (by decide) hgs,H.bv.keptTyI hr (by decide) hgs,H.bo.keptTyI hr (by decide) hgs⟩
  have bc2 := bc.keptTyI hr (by decide) hgs
  clear y0 y1 q3 qf ql yl hgs hr h7 hg1 H bc
  generalize World.setCell _ _ _ = W2 at *
  refine wp_region_RZ 9 (by kernel_rfl) (by kernel_rfl) ?_
  have H3 := H2.mono (bw_drew (Below.refl _ _))
  have bc3 := bc2.drew
  clear H2 bc2
  generalize W2.drew = W3 at *
  have y1 := bc3.cell 1 rfl
  have yl := bc3.lt
  have f4 := own1_cell cellsFr_ok H3.bf (j := 4) (u := .slice (some ⟨gv,0,none⟩) 1 cv) rfl
  have fl := H3.bf.ltOf.2
  have HN := Lib.hid (number_v 7 W3)
  refine RZ.chunkN (f := 2) [0,1,2,3,4,5,6] (by kernel_rfl) ?_
  ((simp only [pickOps,List.filterMap,List.getElem?_toArray,List.getElem?_cons_zero,List.getElem?_cons_succ]); (repeat (go_big_quiet_step (fail))); refine wpQuiet_nil ?_)
  refine RZ.single 7 rfl (by kernel_rfl) (by omega) ?_
  intro K hK
  go_wp2_with fail
  refine HN.out.mono ?_
  rintro e W4 ⟨rfl,hb4⟩
  go_wp2_with fail
  refine hK _ _ hb4 ?_
  have H4 := H3.mono hb4
  clear hK K H3 bc3 y1 yl f4 fl HN
  refine RZ.chunkN (f := 0) [8] (by kernel_rfl) ?_
  ((simp only [pickOps,List.filterMap,List.getElem?_toArray,List.getElem?_cons_zero,List.getElem?_cons_succ]); (repeat (go_big_quiet_step (fail))); refine wpQuiet_nil ?_)
  (refine RZ.tail (by kernel_rfl) ?_; (simp only [List.drop_succ_cons,List.drop_zero]))
  have v0 := own1_cell cellsVl_ok H4.bv (j := 0) (u := .int .i64 0) rfl
  have v1 := own1_cell cellsVl_ok H4.bv (j := 1) (u := .int .i64 0) rfl
  have v2 := own1_cell cellsVl_ok H4.bv (j := 2) (u := .int .i64 0) rfl
  have vf := fun i => own1_free H4.bv i
  have vl := H4.bv.ltOf.2
  go_wp2_with fail
  refine bodyPost_end (results_none rfl _ _ _) rfl ?_
  clear v0 v1 v2 vf vl
  have e0 := own1_set cellsVl_ok H4.bv (j := 0) (by omega) (.int .i64 1) ((1,0,0) : Vl) rfl
  have g0 := grown_set W4 gv 0 (.int .i64 1)
  have e1 := own1_set cellsVl_ok e0 (j := 1) (by omega) (.int .i64 7) ((1,7,0) : Vl) rfl
  have g1 := grown_trans g0 (grown_set _ gv 1 (.int .i64 7))
  have e2 := own1_set cellsVl_ok e1 (j := 2) (by omega) (.int .i64 0) ((1,7,0) : Vl) rfl
  have g2 := grown_trans g1 (grown_set _ gv 2 (.int .i64 0))
  have hr := H4.bv.rowTyI
  have hl := H4.bv.ltOf.1
  exact ⟨rfl,H4.hw.trans (below_row g2 H4.hw.size (fun k hk => by injection hk with hk; omega)),H4.hB,H4.sf,H4.bm.keptTyI hr (by decide) g2,H4.bf.keptTyI hr (by decide) g2,e2,H4.bo.keptTyI hr (by decide) g2⟩
theorem leave_v (w0 w : World) (gm gf cf gv cv : Nat) (AC : Option Addr) (cC : Nat) (AF : Option Addr) (cF : Nat) (i3 s4 s5 : Value) (v : Vl) (mk : Int) (vO : Value) (obs : List ROb) (AI : Option Addr) (cI : Nat) (gk ck : Nat) (x : Vl) (hk : Own cellsVl 3 w0.heap.size 63 w (.slice (some ⟨gk,0,none⟩) 1 ck) [x]) (H : St w0 w gm gf cf gv cv AC cC AF cF i3 s4 s5 1 1 v mk vO obs 0) :
  Calls Tryz.prog 92 #[.pointer (some ⟨gm,0,none⟩),.pointer (some ⟨gf,0,none⟩),.agg #[.int .i64 13,.int .i64 0,.int .i64 (-1),.int .i64 0,.int .i64 0,.string ⟨#[]⟩,.string ⟨#[]⟩,.slice AI 0 cI,.int .i64 0,.int .i64 (-1)]] w fun e w' => e = .returned (.tuple #[]) ∧ St w0 w' gm gf cf gv cv AC cC AF cF i3 s4 s5 0 1 v mk vO obs 1 ∧ Own cellsVl 3 w0.heap.size 63 w' (.slice (some ⟨gk,0,none⟩) 1 ck) [x] := by
 have hcf := Own.capLe H.bf rfl
 go_enter Tryz.func92,Tryz.ntmps92
 go_upto_region 1 with fail
 generalize hW : World.alloc _ _ = W1 at *
 have hb1 : Below w.heap.size w W1 := by rw [← hW]; exact (by repeat (first | assumption | exact Below.refl _ _ | apply bw_alloc | apply bw_drew | apply bw_drewN | apply bw_later | apply bw_step))
 have bc : Box W1 w.heap.size [.int .i64 13,.int .i64 0,.int .i64 (-1),.int .i64 0,.int .i64 0,.string ⟨#[]⟩,.string ⟨#[]⟩,.slice AI 0 cI,.int .i64 0,.int .i64 (-1)] 59 := by rw [← hW]; exact Box.new _ _ _
 clear hW
 replace H := H.mono hb1
 replace hk := hk.mono hb1
 have y2 := bc.cell 2 rfl
 have yl := bc.lt
 go_upto_region 4 with fail
 have hb2 : Below W1.heap.size W1 (W1.alloc (.cells #[.int .i64 0,.int .i64 0,.int .i64 0] 63)) := bw_alloc (Below.refl _ _)
 clear y2 yl bc
 replace H := H.mono hb2
 replace hk := hk.mono hb2
 clear hb1 hb2
 generalize World.alloc _ _ = W2 at *
 refine wp_region_RZ 12 (by kernel_rfl) (by kernel_rfl) ?_
 replace H := H.mono (bw_drew (Below.refl _ _))
 replace hk := hk.mono (bw_drew (Below.refl _ _))
 generalize W2.drew = W3 at *
 have q6 := H.bm.cell 6 rfl
 have qf := fun i => H.bm.free i
 have ql := H.bm.lt
 refine RZ.chunkN (f := 0) [0,1,2,3,4,5,6,7,8,9,10,11] (by kernel_rfl) ?_
 ((simp only [pickOps,List.filterMap,List.getElem?_toArray,List.getElem?_cons_zero,List.getElem?_cons_succ]); (repeat (go_big_quiet_step (fail))); refine wpQuiet_nil ?_)
 all_goals
  (refine RZ.tail (by kernel_rfl) ?_; (simp only [List.drop_succ_cons,List.drop_zero]))
  go_upto_region 5 with fail
  have hgs := grown_set W3 gm 6 (.slice (some ⟨gf,0,none⟩) 0 cf)
  have hr := H.bm.rowTyI
  have H4 : St w0 (W3.setCell ⟨gm,6,none⟩ (.slice (some ⟨gf,0,none⟩) 0 cf)) gm gf cf gv cv AC cC AF cF i3 s4 s5 0 1 v mk vO obs 0 :=
   ⟨H.hw.trans (below_row hgs H.hw.size (fun k hk => by injection hk with hk; have := H.hB; omega)),H.hB,H.sf,H.bm.set 6 _,H.bf.keptTyI hr (by decide) hgs,H.bv.keptTyI hr (by decide) hgs,H.bo.keptTyI hr (by decide) hgs⟩
  replace hk := hk.keptTyI hr (by decide) hgs
  clear q6 qf ql hgs hr H
  generalize World.setCell _ _ _ = W4 at *
  have q6 := H4.bm.cell 6 rfl
  have q9 := H4.bm.cell 9 rfl
  have qf := fun i => H4.bm.free i
  have ql := H4.bm.lt
  go_wp2_with fail
  refine bodyPost_ret (results_none rfl _ _ _) rfl ?_
  have hgs := grown_set W4 gm 9 (.int .i64 1)
  have hr := H4.bm.rowTyI
  exact ⟨rfl,⟨H4.hw.trans (below_row hgs H4.hw.size (fun k hk => by injection hk with hk; have := H4.hB; omega)),H4.hB,H4.sf,H4.bm.set 9 _,H4.bf.keptTyI hr (by decide) hgs,H4.bv.keptTyI hr (by decide) hgs,H4.bo.keptTyI hr (by decide) hgs⟩,hk.keptTyI hr (by decide) hgs⟩
theorem insV0 : (untV.funcs[0]'(by decide)).code[0]'(by decide) = (⟨5,0,0,0,0,⟨#[]⟩,⟨#[]⟩,[],0,-1⟩ : Ins) := rfl
theorem insV1 : (untV.funcs[0]'(by decide)).code[1]'(by decide) = (⟨13,0,-1,0,0,⟨#[]⟩,⟨#[]⟩,[],0,-1⟩ : Ins) := rfl
theorem execute_v0 (w0 w : World) (gm gf cf gv cv : Nat) (AC : Option Addr) (cC : Nat) (AF : Option Addr) (cF : Nat) (gi : Nat) (s4 s5 : Value) (mk : Int) (vO : Value) (obs : List ROb) (hgi : gi < w0.heap.size) (hi : w0.cell? ⟨gi,0,none⟩ = some (.int .i64 7)) (H : St w0 w gm gf cf gv cv AC cC AF cF (.slice (some ⟨gi,0,none⟩) 1 1) s4 s5 1 0 (0,0,0) mk vO obs 0) :
  Calls Tryz.prog 46 #[.pointer (some ⟨gm,0,none⟩)] w fun e w' => e = .returned (.tuple #[]) ∧ St w0 w' gm gf cf gv cv AC cC AF cF (.slice (some ⟨gi,0,none⟩) 0 0) s4 s5 1 1 (1,7,0) mk vO obs 0 := by
 have HT := Lib.hid (top_v w gm gf cf H.bm.lt (H.bm.cell 6 rfl))
 go_enter Tryz.func46,Tryz.ntmps46
 go_wp2_with fail
 refine HT.out.mono ?_
 rintro e w1 ⟨rfl,hb1⟩
 replace H := H.mono hb1
 clear HT hb1
 have HI := Lib.hid (instr_v untV.funcs AF cF w1 gm gf 0 0 0 (by decide) (by decide) (H.sf.mono H.hw) H.bm.lt H.bf.ltOf.2 (H.bm.cell 1 rfl) (own1_cell cellsFr_ok H.bf rfl) (own1_cell cellsFr_ok H.bf rfl))
 go_wp2_with fail
 refine HI.out.mono ?_
 rintro e w2 ⟨hR,hb2⟩
 rw [insV0] at hR
 obtain ⟨AI,cI,he,-,-⟩ := hR
 replace he : e = .returned (.agg #[.int .i64 5,.int .i64 0,.int .i64 0,.int .i64 0,.int .i64 0,.string ⟨#[]⟩,.string ⟨#[]⟩,.slice AI 0 cI,.int .i64 0,.int .i64 (-1)]) := he
 subst he
 replace H := H.mono hb2
 clear HI hb2
 go_upto_region 2 with fail
 generalize hW : World.alloc _ _ = W3 at *
 have hb3 : Below w2.heap.size w2 W3 := by rw [← hW]; exact (by repeat (first | assumption | exact Below.refl _ _ | apply bw_alloc | apply bw_drew | apply bw_drewN | apply bw_later | apply bw_step))
 have bc : Box W3 w2.heap.size [.int .i64 5,.int .i64 0,.int .i64 0,.int .i64 0,.int .i64 0,.string ⟨#[]⟩,.string ⟨#[]⟩,.slice AI 0 cI,.int .i64 0,.int .i64 (-1)] 59 := by rw [← hW]; exact Box.new _ _ _
 replace H := H.mono hb3
 clear hW hb3
 have y0 := bc.cell 0 rfl
 have y1 := bc.cell 1 rfl
 have y2 := bc.cell 2 rfl
 have y3 := bc.cell 3 rfl
 have y4 := bc.cell 4 rfl
 have y5 := bc.cell 5 rfl
 have y6 := bc.cell 6 rfl
 have y7 := bc.cell 7 rfl
 have y8 := bc.cell 8 rfl
 have y9 := bc.cell 9 rfl
 have yl := bc.lt
 have HA := Lib.hid (assign_v w0 W3 gm gf cf gv cv AC cC AF cF gi s4 s5 mk vO obs 0 AI cI hgi hi H)
 go_wp2_with fail
 refine HA.out.mono ?_
 rintro e W4 ⟨rfl,H4⟩
 clear HA H y0 y1 y2 y3 y4 y5 y6 y7 y8 y9 yl bc
 have f1 := own1_cell cellsFr_ok H4.bf (j := 1) (u := .int .i64 0) rfl
 have ff := fun i => own1_free H4.bf i
 have fl := H4.bf.ltOf.2
 go_wp2_with fail
 refine bodyPost_end (results_none rfl _ _ _) rfl ?_
 clear f1 ff fl
 have e0 := own1_set cellsFr_ok H4.bf (j := 1) (by omega) (.int .i64 1) (⟨0,1,0,-1,some ⟨gv,0,none⟩,1,cv,(0,0,0)⟩ : RFr) rfl
 have g0 := grown_set W4 gf 1 (.int .i64 1)
 have hr := H4.bf.rowTyI
 have hl := H4.bf.ltOf.1
 exact ⟨rfl,H4.hw.trans (below_row g0 H4.hw.size (fun k hk => by injection hk with hk; omega)),H4.hB,H4.sf,H4.bm.keptTyI hr (by decide) g0,e0,H4.bv.keptTyI hr (by decide) g0,H4.bo.keptTyI hr (by decide) g0⟩
theorem execute_v1 (w0 w : World) (gm gf cf gv cv : Nat) (AC : Option Addr) (cC : Nat) (AF : Option Addr) (cF : Nat) (i3 s4 s5 : Value) (v : Vl) (mk : Int) (vO : Value) (obs : List ROb) (gk ck : Nat) (x : Vl) (hk : Own cellsVl 3 w0.heap.size 63 w (.slice (some ⟨gk,0,none⟩) 1 ck) [x]) (H : St w0 w gm gf cf gv cv AC cC AF cF i3 s4 s5 1 1 v mk vO obs 0) :
  Calls Tryz.prog 46 #[.pointer (some ⟨gm,0,none⟩)] w fun e w' => e = .returned (.tuple #[]) ∧ St w0 w' gm gf cf gv cv AC cC AF cF i3 s4 s5 0 1 v mk vO obs 1 ∧ Own cellsVl 3 w0.heap.size 63 w' (.slice (some ⟨gk,0,none⟩) 1 ck) [x] := by
 have HT := Lib.hid (top_v w gm gf cf H.bm.lt (H.bm.cell 6 rfl))
 go_enter Tryz.func46,Tryz.ntmps46
 go_wp2_with fail
 refine HT.out.mono ?_
 rintro e w1 ⟨rfl,hb1⟩
 replace H := H.mono hb1
 replace hk := hk.mono hb1
 clear HT hb1
 have HI := Lib.hid (instr_v untV.funcs AF cF w1 gm gf 0 0 1 (by decide) (by decide) (H.sf.mono H.hw) H.bm.lt H.bf.ltOf.2 (H.bm.cell 1 rfl) (own1_cell cellsFr_ok H.bf rfl) (own1_cell cellsFr_ok H.bf rfl))
 go_wp2_with fail
 refine HI.out.mono ?_
 rintro e w2 ⟨hR,hb2⟩
 rw [insV1] at hR
 obtain ⟨AI,cI,he,-,-⟩ := hR
 replace he : e = .returned (.agg #[.int .i64 13,.int .i64 0,.int .i64 (-1),.int .i64 0,.int .i64 0,.string ⟨#[]⟩,.string ⟨#[]⟩,.slice AI 0 cI,.int .i64 0,.int .i64 (-1)]) := he
 subst he
 replace H := H.mono hb2
 replace hk := hk.mono hb2
 clear HI hb2
 go_upto_region 2 with fail
 generalize hW : World.alloc _ _ = W3 at *
 have hb3 : Below w2.heap.size w2 W3 := by rw [← hW]; exact (by repeat (first | assumption | exact Below.refl _ _ | apply bw_alloc | apply bw_drew | apply bw_drewN | apply bw_later | apply bw_step))
 have bc : Box W3 w2.heap.size [.int .i64 13,.int .i64 0,.int .i64 (-1),.int .i64 0,.int .i64 0,.string ⟨#[]⟩,.string ⟨#[]⟩,.slice AI 0 cI,.int .i64 0,.int .i64 (-1)] 59 := by rw [← hW]; exact Box.new _ _ _
 replace H := H.mono hb3
 replace hk := hk.mono hb3
 clear hW hb3
 have y0 := bc.cell 0 rfl
 have y1 := bc.cell 1 rfl
 have y2 := bc.cell 2 rfl
 have y3 := bc.cell 3 rfl
 have y4 := bc.cell 4 rfl
 have y5 := bc.cell 5 rfl
 have y6 := bc.cell 6 rfl
 have y7 := bc.cell 7 rfl
 have y8 := bc.cell 8 rfl
 have y9 := bc.cell 9 rfl
 have yl := bc.lt
 have HA := Lib.hid (leave_v w0 W3 gm gf cf gv cv AC cC AF cF i3 s4 s5 v mk vO obs AI cI gk ck x hk H)
 go_wp2_with fail
 refine HA.out.mono ?_
 rintro e W4 ⟨rfl,H4,hk4⟩
 clear HA H y0 y1 y2 y3 y4 y5 y6 y7 y8 y9 yl bc
 go_wp2_with fail
 refine bodyPost_end (results_none rfl _ _ _) rfl ?_
 exact ⟨rfl,H4,hk4⟩
def RetX (B : Nat) (w' : World) (e : Ending) : Prop := ∃ (gO cO gk ck : Nat) (o : ROb),e = .returned (.tuple #[.agg #[.int .i64 1,.slice (some ⟨gO,0,none⟩) 2 cO],.int .i64 0]) ∧
 Own cellsOb 5 B 54 w' (.slice (some ⟨gO,0,none⟩) 2 cO) [o,⟨0,1,0,-1,some ⟨gk,0,none⟩,1,ck⟩] ∧ Own cellsVl 3 B 63 w' (.slice (some ⟨gk,0,none⟩) 1 ck) [(1,7,0)]
theorem run_v (w : World) (AC : Option Addr) (cC : Nat) (AF : Option Addr) (cF : Nat) (gi : Nat) (H : Hid (UnH w untV AC AF cC)) (hch : chkE untV = (0,0,0)) (hgi : gi < w.heap.size) (hi : w.cell? ⟨gi,0,none⟩ = some (.int .i64 7)) :
  Calls Tryz.prog 16 #[.agg #[.slice AC 1 cC,.slice AF 1 cF,.int .i64 0],.slice (some ⟨gi,0,none⟩) 1 1,.int .i64 9] w fun e w' => RetX w.heap.size w' e ∧ Below w.heap.size w w' := by
 have HCK : Hid (∀ W,Below w.heap.size w W → Calls Tryz.prog 43 #[.agg #[.slice AC 1 cC,.slice AF 1 cF,.int .i64 0]] W fun e w' => e = .returned (.tuple #[.int .i64 0,.int .i64 0,.int .i64 0]) ∧ Below W.heap.size W w') := fun W h => by
  have := check_any untV AC AF cC cF W (Lib.hid (H.out.mono h))
  rw [hch] at this
  exact this
 have sf : Hid (Sl Lay.fun w AF untV.funcs) := H.out.hf
 clear H hch
 obtain ⟨b,oF,A4,c4,A6,c6,rfl,hb,e0,e1,e2,e3,e4,e5,e6,-,-,-,hs6⟩ := sf.out.fun_at (i := 0) (by decide)
 obtain ⟨b2,o2,A7,c7,rfl,hb2',i0,i1,i2,i3,i4,i5,i6,i7,i8,i9,-,-⟩ := hs6.ins_at (i := 0) (by decide)
 obtain ⟨b3,o3,A8,c8,he,-,j0,j1,j2,j3,j4,j5,j6,j7,j8,j9,-,-⟩ := hs6.ins_at (i := 1) (by decide)
 injection he with he
 injection he with he1 he2
 subst he1 he2
 have HF : Hid (∀ W',Below w.heap.size w W' → (b < W'.heap.size ∧ b2 < W'.heap.size) ∧ W'.cell? ⟨b,oF,none⟩ = some (.string ⟨#[77,97,105,110]⟩) ∧ W'.cell? ⟨b,oF + 1,none⟩ = some (.string ⟨#[109,97,105,110]⟩) ∧ W'.cell? ⟨b,oF + 2,none⟩ = some (.bool true) ∧ W'.cell? ⟨b,oF + 3,none⟩ = some (.int .i64 0) ∧ W'.cell? ⟨b,oF + 4,none⟩ = some (.slice A4 1 c4) ∧ W'.cell? ⟨b,oF + 5,none⟩ = some (.string ⟨#[]⟩) ∧ W'.cell? ⟨b,oF + 6,none⟩ = some (.slice (some ⟨b2,o2,none⟩) 2 c6) ∧ W'.cell? ⟨b2,o2,none⟩ = some (.int .i64 5) ∧ W'.cell? ⟨b2,o2 + 1,none⟩ = some (.int .i64 0) ∧ W'.cell? ⟨b2,o2 + 2,none⟩ = some (.int .i64 0) ∧ W'.cell? ⟨b2,o2 + 3,none⟩ = some (.int .i64 0) ∧ W'.cell? ⟨b2,o2 + 4,none⟩ = some (.int .i64 0) ∧ W'.cell? ⟨b2,o2 + 5,none⟩ = some (.string ⟨#[]⟩) ∧ W'.cell? ⟨b2,o2 + 6,none⟩ = some (.string ⟨#[]⟩) ∧ W'.cell? ⟨b2,o2 + 7,none⟩ = some (.slice A7 0 c7) ∧ W'.cell? ⟨b2,o2 + 8,none⟩ = some (.int .i64 0) ∧ W'.cell? ⟨b2,o2 + 9,none⟩ = some (.int .i64 (-1)) ∧ W'.cell? ⟨b2,o2 + 10,none⟩ = some (.int .i64 13) ∧ W'.cell? ⟨b2,o2 + 11,none⟩ = some (.int .i64 0) ∧ W'.cell? ⟨b2,o2 + 12,none⟩ = some (.int .i64 (-1)) ∧ W'.cell? ⟨b2,o2 + 13,none⟩ = some (.int .i64 0) ∧ W'.cell? ⟨b2,o2 + 14,none⟩ = some (.int .i64 0) ∧ W'.cell? ⟨b2,o2 + 15,none⟩ = some (.string ⟨#[]⟩) ∧ W'.cell? ⟨b2,o2 + 16,none⟩ = some (.string ⟨#[]⟩) ∧ W'.cell? ⟨b2,o2 + 17,none⟩ = some (.slice A8 0 c8) ∧ W'.cell? ⟨b2,o2 + 18,none⟩ = some (.int .i64 0) ∧ W'.cell? ⟨b2,o2 + 19,none⟩ = some (.int .i64 (-1))) := fun W' h =>
  ⟨⟨Nat.lt_of_lt_of_le hb h.size,Nat.lt_of_lt_of_le hb2' h.size⟩,keptC e0 hb h,keptC e1 hb h,keptC e2 hb h,keptC e3 hb h,keptC e4 hb h,keptC e5 hb h,keptC e6 hb h,keptC i0 hb2' h,keptC i1 hb2' h,keptC i2 hb2' h,keptC i3 hb2' h,keptC i4 hb2' h,keptC i5 hb2' h,keptC i6 hb2' h,keptC i7 hb2' h,keptC i8 hb2' h,keptC i9 hb2' h,keptC j0 hb2' h,keptC j1 hb2' h,keptC j2 hb2' h,keptC j3 hb2' h,keptC j4 hb2' h,keptC j5 hb2' h,keptC j6 hb2' h,keptC j7 hb2' h,keptC j8 hb2' h,keptC j9 hb2' h⟩
 clear hs6 e0 e1 e2 e3 e4 e5 e6 i0 i1 i2 i3 i4 i5 i6 i7 i8 i9 j0 j1 j2 j3 j4 j5 j6 j7 j8 j9 hb hb2'
 go_enter Tryz.func16,Tryz.ntmps16
 go_upto_region 1 with fail
 generalize hW : World.alloc (World.alloc _ _) _ = W1 at *
 have hb1 : Below w.heap.size w W1 := by rw [← hW]; exact (by repeat (first | assumption | exact Below.refl _ _ | apply bw_alloc | apply bw_drew | apply bw_drewN | apply bw_later | apply bw_step))
 have bu1 : Box W1 w.heap.size [.slice AC 1 cC,.slice (some ⟨b,oF,none⟩) 1 cF,.int .i64 0] 32 := by rw [← hW]; exact (Box.new _ _ _).alloc _
 have br1 : Box W1 (w.heap.size + 1) [.int .i64 0,.slice none 0 0] 47 := by rw [← hW]; exact Box.at (w := w.alloc _) (by simp)
 clear hW
 have u0 := bu1.cell 0 rfl
 have u1 := bu1.cell 1 rfl
 have u2 := bu1.cell 2 rfl
 have ul := bu1.lt
 go_wp2_with fail
 refine (HCK.out _ hb1).mono ?_
 rintro e W2 ⟨rfl,hb12⟩
 have hb2 := below_step hb1 hb12
 have bu2 := bu1.mono hb12
 have br2 := br1.mono hb12
 clear u0 u1 u2 ul HCK bu1 br1 hb1 hb12
 have u0 := bu2.cell 0 rfl
 have u1 := bu2.cell 1 rfl
 have u2 := bu2.cell 2 rfl
 have ul := bu2.lt
 have hmk1 := run_makeMap_none (P := Tryz.prog) 97 103 3 Tryz.underlying97
 have hmk2 := run_makeMap_none (P := Tryz.prog) 98 2 177 Tryz.underlying98
 go_upto_region 9 with fail
 all_goals
  clear hmk1 hmk2
  generalize hW : World.alloc _ _ = W3 at *
  have hb23 : Below W2.heap.size W2 W3 := by rw [← hW]; exact (by repeat (first | assumption | exact Below.refl _ _ | apply bw_alloc | apply bw_drew | apply bw_drewN | apply bw_later | apply bw_step))
  have bm3 : Box W3 (W2.heap.size + 2) [.slice AC 1 cC,.slice (some ⟨b,oF,none⟩) 1 cF,.int .i64 0,.slice (some ⟨gi,0,none⟩) 1 1,.map (some W2.heap.size),.map (some (W2.heap.size + 1)),.slice none 0 0,.int .i64 0,.slice none 0 0,.int .i64 0] 101 := by rw [← hW]; exact Box.at (by simp)
  have bu3 := bu2.mono hb23
  have br3 := br2.mono hb23
  clear hW u0 u1 u2 ul
  have hb3 := below_step hb2 hb23
  have u1 := bu3.cell 1 rfl
  have ul := bu3.lt
  obtain ⟨⟨hb,hb2'⟩,e0,e1,e2,e3,e4,e5,e6,i0,i1,i2,i3,i4,i5,i6,i7,i8,i9,j0,j1,j2,j3,j4,j5,j6,j7,j8,j9⟩ := HF.out _ hb3
  go_wp2_with fail
  refine wp_loop_rounds 2 ?_
  rw [rounds_succ]
  go_upto_region 12 with fail
  clear hb hb2' e0 e1 e2 e3 e4 e5 e6 i0 i1 i2 i3 i4 i5 i6 i7 i8 i9 j0 j1 j2 j3 j4 j5 j6 j7 j8 j9 u1 ul
  generalize hW : World.alloc _ _ = W4 at *
  have hb34 : Below W3.heap.size W3 W4 := by rw [← hW]; exact (by repeat (first | assumption | exact Below.refl _ _ | apply bw_alloc | apply bw_drew | apply bw_drewN | apply bw_later | apply bw_step))
  have bf4 : Box W4 W3.heap.size [.string ⟨#[77,97,105,110]⟩,.string ⟨#[109,97,105,110]⟩,.bool true,.int .i64 0,.slice A4 1 c4,.string ⟨#[]⟩,.slice (some ⟨b2,o2,none⟩) 2 c6] 42 := by rw [← hW]; exact Box.new _ _ _
  clear hW
  have y6 := bf4.cell 6 rfl
  have yl := bf4.lt
  go_wp2_with fail
  clear y6 yl bf4
  refine wp_loop_rounds 3 ?_
  rw [rounds_succ]
  obtain ⟨⟨hb,hb2'⟩,e0,e1,e2,e3,e4,e5,e6,i0,i1,i2,i3,i4,i5,i6,i7,i8,i9,j0,j1,j2,j3,j4,j5,j6,j7,j8,j9⟩ := HF.out _ (below_step hb3 hb34)
  go_upto_region 15 with fail
  clear hb hb2' e0 e1 e2 e3 e4 e5 e6 i0 i1 i2 i3 i4 i5 i6 i7 i8 i9 j0 j1 j2 j3 j4 j5 j6 j7 j8 j9
  generalize hW : World.alloc _ _ = W5 at *
  have hb35 : Below W3.heap.size W3 W5 := by rw [← hW]; exact bw_alloc hb34
  have bi5 : Box W5 W4.heap.size [.int .i64 5,.int .i64 0,.int .i64 0,.int .i64 0,.int .i64 0,.string ⟨#[]⟩,.string ⟨#[]⟩,.slice A7 0 c7,.int .i64 0,.int .i64 (-1)] 59 := by rw [← hW]; exact Box.new _ _ _
  clear hW
  have y0 := bi5.cell 0 rfl
  have yl := bi5.lt
  go_wp2_with fail
  clear y0 yl bi5 hb34
  rw [rounds_succ]
  obtain ⟨⟨hb,hb2'⟩,e0,e1,e2,e3,e4,e5,e6,i0,i1,i2,i3,i4,i5,i6,i7,i8,i9,j0,j1,j2,j3,j4,j5,j6,j7,j8,j9⟩ := HF.out _ (below_step hb3 hb35)
  go_upto_region 15 with fail
  clear hb hb2' e0 e1 e2 e3 e4 e5 e6 i0 i1 i2 i3 i4 i5 i6 i7 i8 i9 j0 j1 j2 j3 j4 j5 j6 j7 j8 j9
  generalize hW : World.alloc _ _ = W6 at *
  have hb36 : Below W3.heap.size W3 W6 := by rw [← hW]; exact bw_alloc hb35
  have bi6 : Box W6 W5.heap.size [.int .i64 13,.int .i64 0,.int .i64 (-1),.int .i64 0,.int .i64 0,.string ⟨#[]⟩,.string ⟨#[]⟩,.slice A8 0 c8,.int .i64 0,.int .i64 (-1)] 59 := by rw [← hW]; exact Box.new _ _ _
  clear hW
  have y0 := bi6.cell 0 rfl
  have yl := bi6.lt
  go_wp2_with fail
  clear y0 yl bi6 hb35
  rw [rounds_succ]
  go_wp2_with fail
  rw [rounds_succ]
  have bm6 := bm3.mono hb36
  have bu6 := bu3.mono hb36
  have br6 := br3.mono hb36
  have u2 := bu6.cell 2 rfl
  have ul := bu6.lt
  have HEN := Lib.hid (enter_v W2 W6 (W2.heap.size + 2) AC cC (some ⟨b,oF,none⟩) cF (.slice (some ⟨gi,0,none⟩) 1 1) (.map (some W2.heap.size)) (.map (some (W2.heap.size + 1))) (below_step hb23 hb36) (by omega) (sf.out.mono hb2) bm6)
  clear bm3 bu3 br3 bm6
  go_wp2_with fail
  refine HEN.out.mono ?_
  rintro e W7 ⟨rfl,gf,cf,gv,H7⟩
  clear HEN u2 ul bu6 br6
  have hi2 := keptC hi hgi hb2
  have hgi2 := Nat.lt_of_lt_of_le hgi hb2.size
  clear HF sf hi hb3 hb23 hb36 bu2
  have q9 := H7.bm.cell 9 rfl
  have q8 := H7.bm.cell 8 rfl
  have ql := H7.bm.lt
  have HR := Lib.hid (record_v W2 W7 (W2.heap.size + 2) gf cf gv 1 AC cC (some ⟨b,oF,none⟩) cF (.slice (some ⟨gi,0,none⟩) 1 1) (.map (some W2.heap.size)) (.map (some (W2.heap.size + 1))) 0 (0,0,0) 1 (.slice none 0 0) [] 0 (by decide) H7)
  go_wp2_with fail
  refine wp_loop_rounds 3 ?_
  rw [rounds_succ]
  go_wp2_with fail
  refine HR.out.mono ?_
  rintro e W8 ⟨rfl,vO,gk0,ck0,H8,-⟩
  clear HR H7 q9 q8 ql
  have HX := Lib.hid (execute_v0 W2 W8 (W2.heap.size + 2) gf cf gv 1 AC cC (some ⟨b,oF,none⟩) cF gi (.map (some W2.heap.size)) (.map (some (W2.heap.size + 1))) 1 vO _ hgi2 hi2 H8)
  go_wp2_with fail
  refine HX.out.mono ?_
  rintro e W9 ⟨rfl,H9⟩
  clear HX H8
  obtain ⟨gO,cO,rfl⟩ := H9.bo.someOf (by simp)
  replace H9 : St W2 W9 (W2.heap.size + 2) gf cf gv 1 AC cC (some ⟨b,oF,none⟩) cF (.slice (some ⟨gi,0,none⟩) 0 0) (.map (some W2.heap.size)) (.map (some (W2.heap.size + 1))) 1 1 (1,7,0) 1 (.slice (some ⟨gO,0,none⟩) 1 cO) [⟨0,0,0,-1,some ⟨gk0,0,none⟩,1,ck0⟩] 0 := H9
  go_wp2_with fail
  rw [rounds_succ]
  have q9 := H9.bm.cell 9 rfl
  have q8 := H9.bm.cell 8 rfl
  have ql := H9.bm.lt
  have HR := Lib.hid (record_v W2 W9 (W2.heap.size + 2) gf cf gv 1 AC cC (some ⟨b,oF,none⟩) cF (.slice (some ⟨gi,0,none⟩) 0 0) (.map (some W2.heap.size)) (.map (some (W2.heap.size + 1))) 1 (1,7,0) 1 (.slice (some ⟨gO,0,none⟩) 1 cO) _ 0 (by simp) H9)
  go_wp2_with fail
  refine HR.out.mono ?_
  rintro e W10 ⟨rfl,vO2,gk,ck,H10,hk⟩
  clear HR H9 q9 q8 ql
  have HX := Lib.hid (execute_v1 W2 W10 (W2.heap.size + 2) gf cf gv 1 AC cC (some ⟨b,oF,none⟩) cF (.slice (some ⟨gi,0,none⟩) 0 0) (.map (some W2.heap.size)) (.map (some (W2.heap.size + 1))) (1,7,0) 1 vO2 _ gk ck (1,7,0) hk H10)
  go_wp2_with fail
  refine HX.out.mono ?_
  rintro e W11 ⟨rfl,H11,hk11⟩
  clear HX H10 hk
  obtain ⟨gO2,cO2,rfl⟩ := H11.bo.someOf (by simp)
  replace H11 : St W2 W11 (W2.heap.size + 2) gf cf gv 1 AC cC (some ⟨b,oF,none⟩) cF (.slice (some ⟨gi,0,none⟩) 0 0) (.map (some W2.heap.size)) (.map (some (W2.heap.size + 1))) 0 1 (1,7,0) 1 (.slice (some ⟨gO2,0,none⟩) 2 cO2) [⟨0,0,0,-1,some ⟨gk0,0,none⟩,1,ck0⟩,⟨0,1,0,-1,some ⟨gk,0,none⟩,1,ck⟩] 1 := H11
  go_wp2_with fail
  rw [rounds_succ]
  have q9 := H11.bm.cell 9 rfl
  have q8 := H11.bm.cell 8 rfl
  have ql := H11.bm.lt
  go_upto_region 25 with fail
  refine wp_region_RZ 9 (by kernel_rfl) (by kernel_rfl) ?_
  clear q9 q8 ql
  replace hk11 := hk11.mono (bw_drew (Below.refl _ _))
  replace H11 := H11.mono (bw_drew (Below.refl _ _))
  generalize W11.drew = W12 at *
  have q9 := H11.bm.cell 9 rfl
  have q8 := H11.bm.cell 8 rfl
  have ql := H11.bm.lt
  have br := br2.mono H11.hw
  refine RZ.chunkN (f := 0) [0,1,2,3,4,5,6,7,8] (by kernel_rfl) ?_
  ((simp only [pickOps,List.filterMap,List.getElem?_toArray,List.getElem?_cons_zero,List.getElem?_cons_succ]); (repeat (go_big_quiet_step (fail))); refine wpQuiet_nil ?_)
  (refine RZ.tail (by kernel_rfl) ?_; (simp only [List.drop_succ_cons,List.drop_zero]))
  have y0 := br.cell 0 rfl
  have y1 := br.cell 1 rfl
  have yf := fun i => br.free i
  have yl := br.lt
  go_wp2_with fail
  clear y0 y1 yf yl q9 q8 ql
  obtain ⟨bz,hgz⟩ := br.store2 (.int .i64 1) (.slice (some ⟨gO2,0,none⟩) 2 cO2)
  have ho := H11.bo.keptTyI br.rowTyI (by decide) hgz
  have hk := hk11.keptTyI br.rowTyI (by decide) hgz
  have hb12 : Below w.heap.size w W12 := below_step hb2 H11.hw
  have hbz := hb12.grown hgz hb12.size (fun k hk => by injection hk with hk; omega)
  generalize World.setCell _ _ _ = wz at *
  have y0 := bz.cell 0 rfl
  have y1 := bz.cell 1 rfl
  refine bodyPost_ret (v := .tuple #[.agg #[.int .i64 1,.slice (some ⟨gO2,0,none⟩) 2 cO2],.int .i64 0]) (by simp [results,Tryz.results16,go_sem,y0,y1]) rfl ?_
  exact ⟨⟨gO2,cO2,gk,ck,_,rfl,Own.base0 ho hb2.size,Own.base0 hk hb2.size⟩,hbz⟩
def binP (op a b : Int) : Int × Int :=
 if op = 1 then (wrap64 (a + b),0) else if op = 2 then (wrap64 (a - b),0) else if op = 3 then (wrap64 (a * b),0) else if op = 4 then (if a < b then 1 else 0,0) else if op = 5 then (if a = b then 1 else 0,0) else (0,12)
theorem binP_sym {op a b : Int} (h : op = 1 ∨ op = 3 ∨ op = 5) : (binP op a b).1 = (binP op b a).1 := by
 unfold binP
 rcases h with rfl | rfl | rfl
 ·simp [Int.add_comm]
 ·simp [Int.mul_comm]
 ·by_cases e : a = b
  ·simp [e]
  ·have e2 : ¬ b = a := fun h => e h.symm
   simp [e,e2]
theorem binP_sub (a b : Int) : (binP 2 a b).1 = wrap64 (-(binP 2 b a).1) := by
 unfold binP wrap64
 simp only [if_neg (show ¬ (2 : Int) = 1 by decide),if_pos]
 simp
 omega
theorem binP_less (a b : Int) : (binP 4 a b).1 + (binP 4 b a).1 ≤ 1 := by
 unfold binP
 by_cases h : a < b
 ·have h2 : ¬ b < a := by omega
  simp [h,h2]
 ·by_cases h2 : b < a
  ·simp [h,h2]
  ·simp [h,h2]
theorem truth_any (b : Bool) (w : World) : Calls Tryz.prog 36 #[.bool b] w fun e w' => e = .returned (.int .i64 (if b then 1 else 0)) ∧ w = w' := by
 cases b <;> (go_enter Tryz.func36,Tryz.ntmps36; go_wp2_with fail; go_ret; exact ⟨rfl,rfl⟩)
theorem bin_any (op a b : Int) (w : World) : Calls Tryz.prog 10 #[.int .i64 op,.int .i64 a,.int .i64 b] w fun e w' => e = .returned (.tuple #[.int .i64 (binP op a b).1,.int .i64 (binP op a b).2]) ∧ w = w' := by
 obtain ⟨r,HR⟩ : ∃ r,Hid (r = binP op a b) := ⟨_,Lib.hid rfl⟩
 rw [← HR.out]
 cases e1 : (op == 1) with
 | true =>
  obtain rfl := eq_of_beq e1
  have HB : Hid (r = (wrap64 (a + b),0)) := by show _ = _; rw [HR.out]; rfl
  go_enter Tryz.func10,Tryz.ntmps10
  go_wp2_with fail
  go_ret2
  exact ⟨by rw [HB.out]; rfl,rfl⟩
 | false =>
 cases e2 : (op == 2) with
 | true =>
  obtain rfl := eq_of_beq e2
  have HB : Hid (r = (wrap64 (a - b),0)) := by show _ = _; rw [HR.out]; rfl
  go_enter Tryz.func10,Tryz.ntmps10
  go_wp2_with fail
  go_ret2
  exact ⟨by rw [HB.out]; rfl,rfl⟩
 | false =>
 cases e3 : (op == 3) with
 | true =>
  obtain rfl := eq_of_beq e3
  have HB : Hid (r = (wrap64 (a * b),0)) := by show _ = _; rw [HR.out]; rfl
  go_enter Tryz.func10,Tryz.ntmps10
  go_wp2_with fail
  go_ret2
  exact ⟨by rw [HB.out]; rfl,rfl⟩
 | false =>
 cases e4 : (op == 4) with
 | true =>
  obtain rfl := eq_of_beq e4
  by_cases h : a < b
  ·have HB : Hid (r = (1,0)) := by show _ = _; rw [HR.out]; unfold binP; simp [h]
   have h2 : decide (a < b) = true := decide_eq_true h
   go_enter Tryz.func10,Tryz.ntmps10
   go_wp2_with fail
   refine (truth_any true _).mono ?_
   rintro e w1 ⟨rfl,rfl⟩
   go_wp2_with fail
   go_ret2
   exact ⟨by rw [HB.out]; rfl,rfl⟩
  ·have HB : Hid (r = (0,0)) := by show _ = _; rw [HR.out]; unfold binP; simp [h]
   have h2 : decide (a < b) = false := decide_eq_false h
   go_enter Tryz.func10,Tryz.ntmps10
   go_wp2_with fail
   refine (truth_any false _).mono ?_
   rintro e w1 ⟨rfl,rfl⟩
   go_wp2_with fail
   go_ret2
   exact ⟨by rw [HB.out]; rfl,rfl⟩
 | false =>
 cases e5 : (op == 5) with
 | true =>
  obtain rfl := eq_of_beq e5
  by_cases h : a = b
  ·have HB : Hid (r = (1,0)) := by show _ = _; rw [HR.out]; unfold binP; simp [h]
   have h2 : (a == b) = true := by simpa using h
   go_enter Tryz.func10,Tryz.ntmps10
   go_wp2_with fail
   refine (truth_any true _).mono ?_
   rintro e w1 ⟨rfl,rfl⟩
   go_wp2_with fail
   go_ret2
   exact ⟨by rw [HB.out]; rfl,rfl⟩
  ·have HB : Hid (r = (0,0)) := by show _ = _; rw [HR.out]; unfold binP; simp [h]
   have h2 : (a == b) = false := by simpa using h
   go_enter Tryz.func10,Tryz.ntmps10
   go_wp2_with fail
   refine (truth_any false _).mono ?_
   rintro e w1 ⟨rfl,rfl⟩
   go_wp2_with fail
   go_ret2
   exact ⟨by rw [HB.out]; rfl,rfl⟩
 | false =>
  have n1 : ¬ op = 1 := fun h => by rw [h] at e1; cases e1
  have n2 : ¬ op = 2 := fun h => by rw [h] at e2; cases e2
  have n3 : ¬ op = 3 := fun h => by rw [h] at e3; cases e3
  have n4 : ¬ op = 4 := fun h => by rw [h] at e4; cases e4
  have n5 : ¬ op = 5 := fun h => by rw [h] at e5; cases e5
  have HB : Hid (r = (0,12)) := by show _ = _; rw [HR.out]; unfold binP; rw [if_neg n1,if_neg n2,if_neg n3,if_neg n4,if_neg n5]
  clear n1 n2 n3 n4 n5
  go_enter Tryz.func10,Tryz.ntmps10
  go_wp2_with fail
  go_ret2
  exact ⟨by rw [HB.out]; rfl,rfl⟩
theorem refBin_any (op a b : Int) (w : World) : Calls Tryz.prog 11 #[.int .i64 op,.int .i64 a,.int .i64 b] w fun e w' => e = .returned (.tuple #[.int .i64 (binP op a b).1,.int .i64 (binP op a b).2]) ∧ w = w' := by
 obtain ⟨r,HR⟩ : ∃ r,Hid (r = binP op a b) := ⟨_,Lib.hid rfl⟩
 rw [← HR.out]
 cases e1 : (op == 1) with
 | true =>
  obtain rfl := eq_of_beq e1
  have HB : Hid (r = (wrap64 (a + b),0)) := by show _ = _; rw [HR.out]; rfl
  go_enter Tryz.func11,Tryz.ntmps11
  go_wp2_with fail
  go_ret2
  exact ⟨by rw [HB.out]; rfl,rfl⟩
 | false =>
 cases e2 : (op == 2) with
 | true =>
  obtain rfl := eq_of_beq e2
  have HB : Hid (r = (wrap64 (a - b),0)) := by show _ = _; rw [HR.out]; rfl
  go_enter Tryz.func11,Tryz.ntmps11
  go_wp2_with fail
  go_ret2
  exact ⟨by rw [HB.out]; rfl,rfl⟩
 | false =>
 cases e3 : (op == 3) with
 | true =>
  obtain rfl := eq_of_beq e3
  have HB : Hid (r = (wrap64 (a * b),0)) := by show _ = _; rw [HR.out]; rfl
  go_enter Tryz.func11,Tryz.ntmps11
  go_wp2_with fail
  go_ret2
  exact ⟨by rw [HB.out]; rfl,rfl⟩
 | false =>
 cases e4 : (op == 4) with
 | true =>
  obtain rfl := eq_of_beq e4
  by_cases h : a < b
  ·have HB : Hid (r = (1,0)) := by show _ = _; rw [HR.out]; unfold binP; simp [h]
   have h2 : decide (a < b) = true := decide_eq_true h
   go_enter Tryz.func11,Tryz.ntmps11
   go_wp2_with fail
   go_ret2
   exact ⟨by rw [HB.out]; rfl,rfl⟩
  ·have HB : Hid (r = (0,0)) := by show _ = _; rw [HR.out]; unfold binP; simp [h]
   have h2 : decide (a < b) = false := decide_eq_false h
   go_enter Tryz.func11,Tryz.ntmps11
   go_wp2_with fail
   go_ret2
   exact ⟨by rw [HB.out]; rfl,rfl⟩
 | false =>
 cases e5 : (op == 5) with
 | true =>
  obtain rfl := eq_of_beq e5
  by_cases h : a = b
  ·have HB : Hid (r = (1,0)) := by show _ = _; rw [HR.out]; unfold binP; simp [h]
   have h2 : (a == b) = true := by simpa using h
   go_enter Tryz.func11,Tryz.ntmps11
   go_wp2_with fail
   go_ret2
   exact ⟨by rw [HB.out]; rfl,rfl⟩
  ·have HB : Hid (r = (0,0)) := by show _ = _; rw [HR.out]; unfold binP; simp [h]
   have h2 : (a == b) = false := by simpa using h
   go_enter Tryz.func11,Tryz.ntmps11
   go_wp2_with fail
   go_ret2
   exact ⟨by rw [HB.out]; rfl,rfl⟩
 | false =>
  have n1 : ¬ op = 1 := fun h => by rw [h] at e1; cases e1
  have n2 : ¬ op = 2 := fun h => by rw [h] at e2; cases e2
  have n3 : ¬ op = 3 := fun h => by rw [h] at e3; cases e3
  have n4 : ¬ op = 4 := fun h => by rw [h] at e4; cases e4
  have n5 : ¬ op = 5 := fun h => by rw [h] at e5; cases e5
  have HB : Hid (r = (0,12)) := by show _ = _; rw [HR.out]; unfold binP; rw [if_neg n1,if_neg n2,if_neg n3,if_neg n4,if_neg n5]
  clear n1 n2 n3 n4 n5
  have u4 : (op != 4) = true := by simp [bne,e4]
  have u5 : (op != 5) = true := by simp [bne,e5]
  go_enter Tryz.func11,Tryz.ntmps11
  go_wp2_with fail
  go_ret2
  exact ⟨by rw [HB.out]; rfl,rfl⟩
theorem awake15_any (w : World) (hfx : Hid (FormX w)) (hkw : Hid (KwX w)) : Calls Tryz.prog 12 #[] w fun e w' => e = .returned (.bool true) ∧ Below w.heap.size w w' := by
 have HU : Hid (∀ (W : World) (AC AF : Option Addr) (cC : Nat),Below w.heap.size w W → 1 ≤ cC → Sl Lay.cls W AC untV.classes → Sl Lay.fun W AF untV.funcs → UnH W untV AC AF cC) := fun W AC AF cC h hc hs hf =>
  ⟨by decide,hc,hs,untV_str,untV_lens,hf,by decide,untV_fun,hfx.out.mono h,hkw.out.mono h⟩
 clear hfx hkw
 go_enter Tryz.func12,Tryz.ntmps12
 go_wp2_with fail
 refine (refParse_v _).mono ?_
 rintro e w1 ⟨⟨AC,AF,cC,cF,rfl,hcC,hcF,hsC,hsF⟩,hb1⟩
 go_upto_region 2 with fail
 generalize hW : World.alloc _ _ = W2 at *
 have hb12 : Below w1.heap.size w1 W2 := by rw [← hW]; exact bw_alloc (Below.refl _ _)
 have bu : Box W2 w1.heap.size [.slice AC 1 cC,.slice AF 1 cF,.int .i64 0] 32 := by rw [← hW]; exact Box.new _ _ _
 clear hW
 have hb2 := below_step hb1 hb12
 have u0 := bu.cell 0 rfl
 have u1 := bu.cell 1 rfl
 have u2 := bu.cell 2 rfl
 have ul := bu.lt
 have HR := Lib.hid (run_v (W2.alloc (.cells #[.int .i64 7] 2)) AC cC AF cF W2.heap.size (Lib.hid (HU.out _ _ _ _ (bw_alloc hb2) hcC (hsC.mono (bw_alloc hb12)) (hsF.mono (bw_alloc hb12)))) untV_chk (by simp) ((Box.new W2 [.int .i64 7] 2).cell 0 rfl))
 go_wp2_with fail
 refine HR.out.mono ?_
 rintro e w3 ⟨⟨gO,cO,gk,ck,o,rfl,hO,hK⟩,hb3⟩
 have hb3' := below_step (bw_alloc hb2) hb3
 clear HR u0 u1 u2 ul HU hsC hsF bu hb12 hb3
 go_upto_region 3 with fail
 generalize hW : World.alloc w3 _ = W4 at *
 have hb34 : Below w3.heap.size w3 W4 := by rw [← hW]; exact bw_alloc (Below.refl _ _)
 have bx : Box W4 w3.heap.size [.int .i64 1,.slice (some ⟨gO,0,none⟩) 2 cO] 47 := by rw [← hW]; exact Box.new _ _ _
 clear hW
 have hb4 := below_step hb3' hb34
 replace hO := hO.mono hb34
 replace hK := hK.mono hb34
 have x0 := bx.cell 0 rfl
 have x1 := bx.cell 1 rfl
 have xl := bx.lt
 have o4 : W4.cell? ⟨gO,9,none⟩ = some (.slice (some ⟨gk,0,none⟩) 1 ck) := Own.cellOf cellsOb_ok hO rfl (i := 1) (j := 4) (by simp) rfl
 have ol := hO.ltOf.2
 have k1 := own1_cell cellsVl_ok hK (j := 1) (u := .int .i64 7) rfl
 have kl := hK.ltOf.2
 have HB : Hid (∀ W,Calls Tryz.prog 10 #[.int .i64 3,.int .i64 6,.int .i64 7] W fun e w' => e = .returned (.tuple #[.int .i64 42,.int .i64 0]) ∧ W = w') := fun W => by
  have := bin_any 3 6 7 W
  rw [show binP 3 6 7 = (42,0) by kernel_rfl] at this
  exact this
 clear hO hK hb34 bx
 go_wp2_with fail
 refine (HB.out _).mono ?_
 rintro e w5 ⟨rfl,rfl⟩
 go_wp2_with fail
 go_ret
 exact ⟨rfl,hb4⟩
theorem disp_any (u : Unt) (A0 A1 : Option Addr) (c0 c1 : Nat) (l m : ByteArray) (w : World) (hl : u.classes.length ≤ 8796093022208) (hcc : u.classes.length ≤ c0) (hok : Hid (NamesOk u.classes)) (hso : okStr l) (hs : Sl Lay.cls w A0 u.classes) (hlk : Hid (LensOk u.classes)) (hfl : u.funcs.length ≤ 8796093022208) (hf : Sl Lay.fun w A1 u.funcs) :
  Calls Tryz.prog 13 #[.agg #[.slice A0 u.classes.length c0,.slice A1 u.funcs.length c1,.int .i64 u.main],.string l,.string m] w fun e w' => e = .returned (.int .i64 (dispI u.classes u.funcs l m)) ∧ Below w.heap.size w w' := by
 obtain ⟨r,HR⟩ : ∃ r,Hid (r = dispI u.classes u.funcs l m) := ⟨_,Lib.hid rfl⟩
 rw [← HR.out]
 go_enter Tryz.func13,Tryz.ntmps13
 go_upto_region 1 with fail
 generalize hW : World.alloc _ _ = W1 at *
 have hb1 : Below w.heap.size w W1 := by rw [← hW]; exact (by repeat (first | assumption | exact Below.refl _ _ | apply bw_alloc | apply bw_drew | apply bw_drewN | apply bw_later | apply bw_step))
 have bu : Box W1 w.heap.size [.slice A0 u.classes.length c0,.slice A1 u.funcs.length c1,.int .i64 u.main] 32 := by rw [← hW]; exact Box.new _ _ _
 clear hW
 have u0 := bu.cell 0 rfl
 have ul := bu.lt
 go_wp2_with fail
 refine (lookup_any A0 c0 u.classes l m _ hl hcc (hs.mono hb1) hok hlk hso).mono ?_
 rintro e w2 ⟨hR,hq2⟩
 have hb2 := below_step hb1 hq2
 have bu2 := bu.mono hq2
 obtain ⟨nm,g,AP,cP,ok,rfl,hK⟩ := hR.ok hlk.out
 have HD := Lib.hid (disp_ok (fs := u.funcs) hK)
 clear u0 ul bu hR hK hq2
 go_upto_region 2 with fail
 generalize hW : World.alloc _ _ = W3 at *
 have h23 : Below w2.heap.size w2 W3 := by rw [← hW]; exact bw_alloc (Below.refl _ _)
 have bs : Box W3 w2.heap.size [.string g.name,.bool g.static,.slice AP g.params.length cP,.string g.result] 36 := by rw [← hW]; exact Box.new _ _ _
 clear hW
 have hb3 := below_step hb2 h23
 have bu3 := bu2.mono h23
 have s1 := bs.cell 1 rfl
 have sl := bs.lt
 clear h23 bu2
 cases ok with
 | false =>
  have HB : Hid (r = -1) := by show r = -1; rw [HR.out,HD.out]; rfl
  go_wp2_with fail
  go_ret
  exact ⟨by rw [HB.out]; rfl,hb3⟩
 | true =>
 cases hst : g.static with
 | true =>
  rw [hst] at s1
  have HB : Hid (r = -1) := by show r = -1; rw [HR.out,HD.out,hst]; rfl
  go_wp2_with fail
  go_ret
  exact ⟨by rw [HB.out]; rfl,hb3⟩
 | false =>
  rw [hst] at s1
  have HB : Hid (r = findU u.funcs nm m) := by show r = _; rw [HR.out,HD.out,hst]; rfl
  have u0 := bu3.cell 0 rfl
  have u1 := bu3.cell 1 rfl
  have u2 := bu3.cell 2 rfl
  have ul := bu3.lt
  go_wp2_with fail
  refine (irFind_any A0 A1 u.classes.length c0 c1 u.main u.funcs nm m _ (by omega) (hf.mono hb3)).mono ?_
  rintro e w4 ⟨rfl,hq4⟩
  go_wp2_with fail
  go_ret
  exact ⟨by rw [HB.out]; rfl,below_step hb3 hq4⟩
structure GlobI (W : World) : Prop where
 kw : KwX W
 fx : FormX W
theorem idxI_is {α : Type} {p : α → Bool} {l : List α} (h : 0 ≤ idxI p l) : ∃ k : Nat,∃ hk : k < l.length,idxI p l = (k : Int) ∧ p l[k] = true := by
 unfold idxI at h ⊢
 cases hf : l.findIdx? p with
 | none => rw [hf] at h; exact absurd h (show ¬ (0 : Int) ≤ -1 by decide)
 | some i =>
  rw [List.findIdx?_eq_some_iff_getElem] at hf
  obtain ⟨hi,hp,_⟩ := hf
  exact ⟨i,hi,rfl,hp⟩
theorem disp_yes {cs : List Cls} {fs : List Fun} {l m : ByteArray} (h : 0 ≤ dispI cs fs l m) : ∃ (g : Sg) (k : Nat) (hk : k < fs.length),sgAt cs (lookS cs l m) = some g ∧ dispI cs fs l m = (k : Int) ∧ (fs[k].cls.toList == (nmAt cs (lookS cs l m).1).toList) = true ∧ (fs[k].name.toList == m.toList) = true := by
 unfold dispI at h ⊢
 cases hs : sgAt cs (lookS cs l m) with
 | none => rw [hs] at h; exact absurd h (show ¬ (0 : Int) ≤ -1 by decide)
 | some g =>
  rw [hs] at h
  have h' : 0 ≤ (if g.static = true then (-1 : Int) else findU fs (nmAt cs (lookS cs l m).1) m) := h
  cases hg : g.static with
  | true => rw [hg,if_pos rfl] at h'; exact absurd h' (by decide)
  | false =>
   rw [hg,if_neg (by simp)] at h'
   obtain ⟨k,hk,e,hp⟩ := idxI_is h'
   unfold isFun at hp
   rw [Bool.and_eq_true] at hp
   exact ⟨g,k,hk,rfl,by show (if g.static = true then (-1 : Int) else findU fs (nmAt cs (lookS cs l m).1) m) = _; rw [hg,if_neg (by simp)]; exact e,hp.1,hp.2⟩
theorem disp_bd (cs : List Cls) (fs : List Fun) (l m : ByteArray) : -1 ≤ dispI cs fs l m := by
 unfold dispI
 cases sgAt cs (lookS cs l m) with
 | none => exact Int.le_refl _
 | some g =>
  show -1 ≤ (if g.static = true then (-1 : Int) else findU fs (nmAt cs (lookS cs l m).1) m)
  split
  ·exact Int.le_refl _
  ·exact (findU_bd _ _ _).1
theorem walk_InterpDispatch (u : Unt) (A0 A1 : Option Addr) (c0 c1 : Nat) (l m : ByteArray) (w : World) (H : Hid (UnR w u A0 A1 c0)) (hso : okStr l) (hfx : Hid (FormX w)) (hkw : Hid (KwX w)) :
  Calls Tryz.prog 4 #[.agg #[.slice A0 u.classes.length c0,.slice A1 u.funcs.length c1,.int .i64 u.main],.string l,.string m] w fun e w' => e = .returned (.bool true) ∧ Below w.heap.size w w' := by
 have HAW : Hid (∀ W,Below w.heap.size w W → Calls Tryz.prog 12 #[] W fun e w' => e = .returned (.bool true) ∧ Below W.heap.size W w') := fun W h => awake15_any W (Lib.hid (hfx.out.mono h)) (Lib.hid (hkw.out.mono h))
 have HD1 : Hid (∀ W,Below w.heap.size w W → Calls Tryz.prog 13 #[.agg #[.slice A0 u.classes.length c0,.slice A1 u.funcs.length c1,.int .i64 u.main],.string l,.string m] W fun e w' => e = .returned (.int .i64 (dispI u.classes u.funcs l m)) ∧ Below W.heap.size W w') := fun W h =>
  disp_any u A0 A1 c0 c1 l m W H.out.hl H.out.hcc H.out.hok.names hso (H.out.hs.mono h) (Lib.hid H.out.hlk) H.out.hfl (H.out.hf.mono h)
 have HD2 : Hid (∀ W,Below w.heap.size w W → Calls Tryz.prog 14 #[.agg #[.slice A0 u.classes.length c0,.slice A1 u.funcs.length c1,.int .i64 u.main],.string l,.string m] W fun e w' => e = .returned (.int .i64 (dispI u.classes u.funcs l m)) ∧ Below W.heap.size W w') := fun W h =>
  refDisp_any u A0 A1 c0 c1 l m W H.out.hl (H.out.hs.mono h) (Lib.hid H.out.hlk) H.out.hfl (H.out.hf.mono h)
 have HLK : Hid (∀ W,Below w.heap.size w W → Calls Tryz.prog 15 #[.agg #[.slice A0 u.classes.length c0],.string l,.string m] W fun e w' => LookR u.classes (lookS u.classes l m) e w' ∧ Below W.heap.size W w') := fun W h =>
  refLookup_g A0 c0 u.classes l m W H.out.hl (H.out.hs.mono h) (Lib.hid H.out.hlk)
 have hf : Hid (Sl Lay.fun w A1 u.funcs) := H.out.hf
 have hlk : Hid (LensOk u.classes) := Lib.hid H.out.hlk
 have hbd := disp_bd u.classes u.funcs l m
 have HY := Lib.hid (@disp_yes u.classes u.funcs l m)
 clear hfx hkw H
 obtain ⟨r,hr⟩ : ∃ r,r = dispI u.classes u.funcs l m := ⟨_,rfl⟩
 rw [← hr] at HD1 HD2 hbd HY
 clear hr
 go_enter Tryz.func4,Tryz.ntmps4
 go_upto_region 1 with fail
 generalize hW : World.alloc _ _ = W1 at *
 have hb1 : Below w.heap.size w W1 := by rw [← hW]; exact (by repeat (first | assumption | exact Below.refl _ _ | apply bw_alloc | apply bw_drew | apply bw_drewN | apply bw_later | apply bw_step))
 have bu : Box W1 w.heap.size [.slice A0 u.classes.length c0,.slice A1 u.funcs.length c1,.int .i64 u.main] 32 := by rw [← hW]; exact Box.new _ _ _
 clear hW
 have u0 := bu.cell 0 rfl
 have u1 := bu.cell 1 rfl
 have u2 := bu.cell 2 rfl
 have ul := bu.lt
 go_wp2_with fail
 refine (HD1.out _ hb1).mono ?_
 rintro e w2 ⟨rfl,hq⟩
 have hb2 := below_step hb1 hq
 have bu2 := bu.mono hq
 clear hq u0 u1 u2 ul bu hb1
 have u0 := bu2.cell 0 rfl
 have u1 := bu2.cell 1 rfl
 have u2 := bu2.cell 2 rfl
 have ul := bu2.lt
 have hrr : (r != r) = false := by simp
 go_wp2_with fail
 refine (HD2.out _ hb2).mono ?_
 rintro e w3 ⟨rfl,hq⟩
 have hb3 := below_step hb2 hq
 have bu3 := bu2.mono hq
 clear hq u0 u1 u2 ul bu2 hb2 HD1 HD2
 have u0 := bu3.cell 0 rfl
 have u1 := bu3.cell 1 rfl
 have u2 := bu3.cell 2 rfl
 have ul := bu3.lt
 by_cases h0 : 0 ≤ r
 ·obtain ⟨g,k,hk,hsg,rfl,hcl,hnm⟩ := HY.out h0
  go_wp2_with fail
  refine (HLK.out _ hb3).mono ?_
  rintro e w4 ⟨hR,hq⟩
  have hb4 := below_step hb3 hq
  have bu4 := bu3.mono hq
  obtain ⟨nm,g2,AP,cP,ok,rfl,hK⟩ := hR.ok hlk.out
  have hcl2 : (u.funcs[k].cls.toList == nm.toList) = true := by
   cases ok with
   | false => have := hK.no rfl; rw [hsg] at this; cases this
   | true => rw [(hK.yes rfl).2]; exact hcl
  clear hq u0 u1 u2 ul bu3 hb3 HLK hK hR hcl hsg HY
  go_upto_region 6 with fail
  generalize hW : World.alloc w4 _ = W5 at *
  have h45 : Below w4.heap.size w4 W5 := by rw [← hW]; exact bw_alloc (Below.refl _ _)
  clear hW
  have hb5 := below_step hb4 h45
  have bu5 := bu4.mono h45
  have u1 := bu5.cell 1 rfl
  have ul := bu5.lt
  obtain ⟨b,oF,A4,c4,A6,c6,rfl,hb,e0,e1,-,-,-,-,-,-,-,-,-⟩ := (hf.out.mono hb5).fun_at hk
  have hkI : (k : Int) < (u.funcs.length : Int) := by omega
  go_wp2_with fail
  refine (HAW.out _ hb5).mono ?_
  rintro e w6 ⟨rfl,hq⟩
  go_wp2_with fail
  go_ret
  exact ⟨rfl,below_step hb5 hq⟩
 ·have h1 : r = -1 := by omega
  subst h1
  go_wp2_with fail
  refine (HAW.out _ hb3).mono ?_
  rintro e w6 ⟨rfl,hq⟩
  go_wp2_with fail
  go_ret
  exact ⟨rfl,below_step hb3 hq⟩
theorem walk_InterpBin (op a b : Int) (w : World) (hfx : Hid (FormX w)) (hkw : Hid (KwX w)) :
  Calls Tryz.prog 3 #[.int .i64 op,.int .i64 a,.int .i64 b] w fun e w' => e = .returned (.bool true) ∧ Below w.heap.size w w' := by
 have HAW : Hid (∀ W,Below w.heap.size w W → Calls Tryz.prog 12 #[] W fun e w' => e = .returned (.bool true) ∧ Below W.heap.size W w') := fun W h => awake15_any W (Lib.hid (hfx.out.mono h)) (Lib.hid (hkw.out.mono h))
 have HB1 := Lib.hid (bin_any op a b w)
 have HB2 := Lib.hid (refBin_any op a b w)
 have HB3 := Lib.hid (bin_any op b a w)
 have HS : Hid (op = 1 ∨ op = 3 ∨ op = 5 → (binP op a b).1 = (binP op b a).1) := binP_sym
 have HM : Hid (op = 2 → (binP op a b).1 = wrap64 (-(binP op b a).1)) := fun h => by subst h; exact binP_sub a b
 have HL : Hid (op = 4 → ((binP op a b).1 = 0 ∨ (binP op a b).1 = 1) ∧ ((binP op b a).1 = 0 ∨ (binP op b a).1 = 1) ∧ (binP op a b).1 + (binP op b a).1 ≤ 1) := fun h => by
  subst h
  refine ⟨?_,?_,binP_less a b⟩
  ·unfold binP; by_cases h : a < b <;> simp [h]
  ·unfold binP; by_cases h : b < a <;> simp [h]
 clear hfx hkw
 generalize binP op a b = p at *
 generalize binP op b a = q at *
 obtain ⟨n,e1⟩ := p
 obtain ⟨k,e2⟩ := q
 have hn : (n != n) = false := by simp
 have he : (e1 != e1) = false := by simp
 go_enter Tryz.func3,Tryz.ntmps3
 go_wp2_with fail
 refine HB1.out.mono ?_
 rintro e w1 ⟨rfl,rfl⟩
 go_wp2_with fail
 refine HB2.out.mono ?_
 rintro e w1 ⟨rfl,rfl⟩
 go_wp2_with fail
 refine HB3.out.mono ?_
 rintro e w1 ⟨rfl,rfl⟩
 clear HB1 HB2 HB3 hn he
 by_cases hs : op = 1 ∨ op = 3 ∨ op = 5
 ·have hnk : (n == k) = true := by rw [HS.out hs]; simp
  rcases hs with rfl | rfl | rfl
  all_goals
   go_wp2_with fail
   refine (HAW.out _ (Below.refl _ _)).mono ?_
   rintro e w6 ⟨rfl,hq⟩
   go_wp2_with fail
   go_ret
   exact ⟨rfl,hq⟩
 ·have n1 : (op == 1) = false := by rw [beq_eq_false_iff_ne]; exact fun h => hs (Or.inl h)
  have n3 : (op == 3) = false := by rw [beq_eq_false_iff_ne]; exact fun h => hs (Or.inr (Or.inl h))
  have n5 : (op == 5) = false := by rw [beq_eq_false_iff_ne]; exact fun h => hs (Or.inr (Or.inr h))
  clear hs
  by_cases h2 : op = 2
  ·subst h2
   have hm := HM.out rfl
   go_wp2_with fail
   refine (HAW.out _ (Below.refl _ _)).mono ?_
   rintro e w6 ⟨rfl,hq⟩
   go_wp2_with fail
   go_ret
   exact ⟨rfl,hq⟩
  ·have n2 : (op != 2) = true := by simp [bne,h2]
   by_cases h4 : op = 4
   ·subst h4
    obtain ⟨h5,h6,h7⟩ := HL.out rfl
    rcases h5 with rfl | rfl <;> rcases h6 with rfl | rfl
    case inr.inr => exact absurd h7 (by decide)
    all_goals
     go_wp2_with fail
     refine (HAW.out _ (Below.refl _ _)).mono ?_
     rintro e w6 ⟨rfl,hq⟩
     go_wp2_with fail
     go_ret
     exact ⟨rfl,hq⟩
   ·have n4 : (op != 4) = true := by simp [bne,h4]
    go_wp2_with fail
    refine (HAW.out _ (Below.refl _ _)).mono ?_
    rintro e w6 ⟨rfl,hq⟩
    go_wp2_with fail
    go_ret
    exact ⟨rfl,hq⟩
end Go.Proofs.YtmhdambkchlilaaGreatDoor
