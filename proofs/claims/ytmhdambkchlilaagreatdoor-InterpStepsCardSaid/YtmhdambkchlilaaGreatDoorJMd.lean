/- Chapter 15: assign of package interp at the operations 0, 4, 5, 6 (for any unit). Chapter 15: the machine of package interp in memory, as one state. Chapter 15: assign of package interp at operation 6: an object is made (for any unit). Chapter 15: a frame ends and its caller goes on (package interp, for any unit). -/
import Derived.Test.YtmhdambkchlilaaGreatDoorJMc
namespace Go.Proofs.YtmhdambkchlilaaGreatDoor
open Go.RowKit
set_option linter.unusedVariables false
set_option maxRecDepth 100000
set_option maxHeartbeats 8000000
theorem ahI(w:World)(P M:Value)(x:Ins)(AI:Option Addr)(cI:Nat)(hop:x.op=0) :
  Calls Tryz.prog 96 #[M,P,.agg #[.int .i64 x.op,.int .i64 x.dst,.int .i64 x.a,.int .i64 x.b,.int .i64 x.n,.string x.cls,.string x.name,.slice AI x.args.length cI,.int .i64 x.jmp,.int .i64 x.hnd]] w fun e w'=>e = .returned (.tuple #[])∧Below w.heap.size w w':=by
 have t1:(x.op==1)=false:=by rw[hop];rfl
 have t2:(x.op==2)=false:=by rw[hop];rfl
 have t3:(x.op==3)=false:=by rw[hop];rfl
 have t4:(x.op==16)=false:=by rw[hop];rfl
 have t5:(x.op==5)=false:=by rw[hop];rfl
 have t6:(x.op==4)=false:=by rw[hop];rfl
 have t7:(x.op==6)=false:=by rw[hop];rfl
 clear hop
 go_enter Tryz.func96,Tryz.ntmps96
 go_upto_region 1 with fail
 generalize hW:World.alloc _ _=W1 at *
 have hb1:Below w.heap.size w W1:=by rw[←hW];exact(by repeat(first|assumption|exact v9r|apply zc|apply zd|apply zg|apply ze|apply zi))
 have bc:Box W1 w.heap.size [.int .i64 x.op,.int .i64 x.dst,.int .i64 x.a,.int .i64 x.b,.int .i64 x.n,.string x.cls,.string x.name,.slice AI x.args.length cI,.int .i64 x.jmp,.int .i64 x.hnd] 59:=by rw[←hW];exact Box.new _ _ _
 clear hW;have y0:=bc.cell 0 rfl;have yl:=bc.lt
 go_wp2_with fail
 refine bodyPost_end (results_none rfl _ _ _) rfl ?_;exact⟨rfl,hb1⟩
theorem ahJ(w:World)(lo gF cF g:Nat)(M vO:Value)(f:Frm)(r:List Frm)(q:List Nat)(obs:List Obv)(x:Ins)(AI:Option Addr)(cI d:Nat)(hop:x.op=4)(va vb:Vl)(HR:Hid (∀W,Below w.heap.size w W→Calls Tryz.prog 90 #[M,.pointer (some ⟨gF,r.length*8,none⟩),.int .i64 x.a] W fun e w'=>e = .returned (vlV va)∧Below W.heap.size W w'))
  (HR2:Hid (∀W,Below w.heap.size w W→Calls Tryz.prog 90 #[M,.pointer (some ⟨gF,r.length*8,none⟩),.int .i64 x.b] W fun e w'=>e = .returned (vlV vb)∧Below W.heap.size W w')) (hxd:x.dst=(d:Int)) (hd:d<f.vals.length)
  (hF:zy w lo (.slice (some ⟨gF,0,none⟩) (r.length+1) cF) (f::r) (g::q)) (hO:zN w lo vO obs (g::q)) :
  Calls Tryz.prog 96 #[M,.pointer (some ⟨gF,r.length*8,none⟩),.agg #[.int .i64 x.op,.int .i64 x.dst,.int .i64 x.a,.int .i64 x.b,.int .i64 x.n,.string x.cls,.string x.name,.slice AI x.args.length cI,.int .i64 x.jmp,.int .i64 x.hnd]] w fun e w'=>e = .returned (.tuple #[])∧aaO w lo (.slice (some ⟨gF,0,none⟩) (r.length+1) cF) vO f r g q obs d (binV va vb x.n) w':=by
 have t1:(x.op==1)=false:=by rw[hop];rfl
 have t2:(x.op==2)=false:=by rw[hop];rfl
 have t3:(x.op==3)=false:=by rw[hop];rfl
 have t4:(x.op==16)=false:=by rw[hop];rfl
 have t5:(x.op==5)=false:=by rw[hop];rfl
 have t6:(x.op==4)=true:=by rw[hop];rfl
 obtain⟨a1,a2,a3⟩:=va;obtain⟨b1,b2,b3⟩:=vb;have HBV:=fun W=>af2 M (a1,a2,a3) (b1,b2,b3) x.n W
 obtain⟨⟨z1,z2,z3⟩,hbv⟩:∃v,v=binV (a1,a2,a3) (b1,b2,b3) x.n:=⟨_,rfl⟩
 rw[←hbv] at HBV ⊢;clear hbv;rw[show vlV (a1,a2,a3) = .agg #[.int .i64 a1,.int .i64 a2,.int .i64 a3] from rfl] at HR HBV;rw[show vlV (b1,b2,b3) = .agg #[.int .i64 b1,.int .i64 b2,.int .i64 b3] from rfl] at HR2 HBV;rw[show vlV (z1,z2,z3) = .agg #[.int .i64 z1,.int .i64 z2,.int .i64 z3] from rfl] at HBV;replace HBV:=v9h HBV;have hdI:(d:Int)<(f.vals.length:Int):=by omega
 rw[hxd];clear hop hxd
 go_enter Tryz.func96,Tryz.ntmps96
 go_upto_region 1 with fail
 generalize hW:World.alloc _ _=W1 at *
 have hb1:Below w.heap.size w W1:=by rw[←hW];exact(by repeat(first|assumption|exact v9r|apply zc|apply zd|apply zg|apply ze|apply zi))
 have bc:Box W1 w.heap.size [.int .i64 x.op,.int .i64 (d:Int),.int .i64 x.a,.int .i64 x.b,.int .i64 x.n,.string x.cls,.string x.name,.slice AI x.args.length cI,.int .i64 x.jmp,.int .i64 x.hnd] 59:=by rw[←hW];exact Box.new _ _ _
 clear hW;have y0:=bc.cell 0 rfl;have yl:=bc.lt
 go_upto_region 17 with fail
 refine zt 21 (by kernel_rfl) (by kernel_rfl) ?_;have hF3:=(hF.mono hb1).mono (zd (v9r));have hO3:=(hO.mono hb1).mono (zd (v9r));have hK3:KpM lo [63] w W1.drew:=KpM.below (hb1.drew);have bc3:=bc.drew;have hb3:=hb1.drew;have HN:=v9h (HR.out _ hb3);clear hF hO hb1 bc y0 yl HR;generalize W1.drew=W3 at *
 have y1:=bc3.cell 1 rfl;have y2:=bc3.cell 2 rfl;have y3:=bc3.cell 3 rfl;have y4:=bc3.cell 4 rfl;have yl:=bc3.lt;have f4:=hF3.cell (j:=4) (u:= .slice (some ⟨g,0,none⟩) f.vals.length f.vals.length) rfl;have fl:=hF3.ltF.2;refine RZ.chunkN (f:=4) [0,1,2,3,4,5,6,7,8,9,10,12,13,14,15,17,18] (by kernel_rfl) ?_
 ((simp only[zo,List.filterMap,List.getElem?_toArray,List.getElem?_cons_zero,List.getElem?_cons_succ]);(repeat(go_big_quiet_step (fail)));refine wpQuiet_nil ?_)
 refine RZ.single 11 rfl (by kernel_rfl) (by omega) ?_;intro K hK
 go_wp2_with fail
 refine HN.out.mono ?_;rintro e W4 ⟨rfl,hb4⟩
 go_wp2_with fail
 refine hK _ _ hb4 ?_;have hF4:=hF3.mono hb4;have hO4:=hO3.mono hb4;have hK4:=hK3.trans (KpM.below hb4);have HM:=v9h (HR2.out _ (za hb3 hb4));clear hK hF3 hO3 hK3 bc3 y1 y2 y3 y4 yl f4 fl HN HR2;refine RZ.single 16 rfl (by kernel_rfl) (by omega) ?_;clear K;intro K hK
 go_wp2_with fail
 refine HM.out.mono ?_;rintro e W5 ⟨rfl,hb5⟩
 go_wp2_with fail
 have hb35:=za hb4 hb5;refine hK _ _ hb35 ?_;have hF5:=hF4.mono hb5;have hO5:=hO4.mono hb5;have hK5:=hK4.trans (KpM.below hb5);clear hK hF4 hO4 hK4 HM hb4 hb5;have HQ:=v9h (HBV.out W5);clear HBV;refine RZ.single 19 rfl (by kernel_rfl) (by omega) ?_;clear K;intro K hK
 go_wp2_with fail
 refine HQ.out.mono ?_;rintro e W6 ⟨rfl,hb6⟩
 go_wp2_with fail
 refine hK _ _ (za hb35 hb6) ?_;have hF4:=hF5.mono hb6;have hO4:=hO5.mono hb6;have hK4:=hK5.trans (KpM.below hb6);clear hK K HQ hb35 hb6 hF5 hO5 hK5;refine RZ.chunkN (f:=0) [20] (by kernel_rfl) ?_
 ((simp only[zo,List.filterMap,List.getElem?_toArray,List.getElem?_cons_zero,List.getElem?_cons_succ]);(repeat(go_big_quiet_step (fail)));refine wpQuiet_nil ?_)
 (refine RZ.tail (by kernel_rfl) ?_;(simp only[List.drop_succ_cons,List.drop_zero]))
 obtain⟨⟨w0,w1,w2⟩,vf,vl⟩:=hF4.valCells hd
 go_wp2_with fail
 refine bodyPost_end (results_none rfl _ _ _) rfl ?_;obtain⟨e1,e2,e3⟩:=hF4.storeVal hO4 hd z1 z2 z3 rfl;exact⟨rfl,e1,e2,hK4.trans e3⟩
theorem Sl.tl{W:World}{b o:Nat}{y:Int}{l:List Int}(h:Sl Lay.int W (some ⟨b,o,none⟩) (y::l)):Sl Lay.int W (some ⟨b,o+1,none⟩) l:=by
 intro i z hz;obtain⟨b',o',vs,e,hlt,hr,hc⟩:=h (i+1) z hz;injection e with e
 injection e with e1 e2 _
 subst e1 e2;refine⟨b,o+1,vs,rfl,hlt,hr,fun j v hv=>?_⟩;have h1:=hc j v hv
 have h2:o+(i+1)*Lay.int.size+j=o+1+i*Lay.int.size+j:=by
  show o+(i+1)*1+j=o+1+i*1+j
  omega
 rw[h2] at h1;exact h1
def ah5(w:World)(lo gm:Nat)(c0 c1 c2 c4 c5 c7 c8 c9:Value)(vF vO:Value)(f:Frm)(r:List Frm)(g:Nat)(q:List Nat)(obs:List Obv)(d:Nat)(AL:Option Addr)(l:List Int)(w':World):Prop:=∃(A':Option Addr) (c':Nat),l.tail.length≤c'∧(∀W,Sl Lay.int W AL l→Sl Lay.int W A' l.tail)∧Box w' gm [c0,c1,c2,.slice A' l.tail.length c',c4,c5,vF,c7,c8,c9] 101∧zy w' lo vF ({ f with vals:=f.vals.set d (1,l.headD 0,0)}::r) (g::q)∧zN w' lo vO obs (g::q)∧KpM lo [101,63] w w'
theorem KpM.wide{lo:Nat}{ts ts':List TypeId}{w w':World}(h:KpM lo ts w w')(hs:∀t∈ts,t∈ts'):KpM lo ts' w w':=⟨h.os,h.tape,h.output,h.size,fun b cs t fr e h1=>h.blk b cs t fr e (fun h2=>h1 (hs t h2)),h.maps,h.low⟩
theorem ahK(w:World)(lo gm gF cF g:Nat)(c0 c1 c2 c4 c5 c7 c8 c9 vO:Value)(f:Frm)(r:List Frm)(q:List Nat)(obs:List Obv)(x:Ins)(AI:Option Addr)(cI d:Nat)(hop:x.op=5)(AL:Option Addr)(cL:Nat)(l:List Int)(hS:Sl Lay.int w AL l)(hcL:l.length≤cL)(hlI:l.length≤1000)(hxd:x.dst=(d:Int))(hd:d<f.vals.length)(hgm:lo≤gm)
  (bm:Box w gm [c0,c1,c2,.slice AL l.length cL,c4,c5,.slice (some ⟨gF,0,none⟩) (r.length+1) cF,c7,c8,c9] 101)
  (hF:zy w lo (.slice (some ⟨gF,0,none⟩) (r.length+1) cF) (f::r) (g::q)) (hO:zN w lo vO obs (g::q)) :
  Calls Tryz.prog 96 #[.pointer (some ⟨gm,0,none⟩),.pointer (some ⟨gF,r.length*8,none⟩),.agg #[.int .i64 x.op,.int .i64 x.dst,.int .i64 x.a,.int .i64 x.b,.int .i64 x.n,.string x.cls,.string x.name,.slice AI x.args.length cI,.int .i64 x.jmp,.int .i64 x.hnd]] w fun e w'=>e = .returned (.tuple #[])∧ah5 w lo gm c0 c1 c2 c4 c5 c7 c8 c9 (.slice (some ⟨gF,0,none⟩) (r.length+1) cF) vO f r g q obs d AL l w':=by
 have t1:(x.op==1)=false:=by rw[hop];rfl
 have t2:(x.op==2)=false:=by rw[hop];rfl
 have t3:(x.op==3)=false:=by rw[hop];rfl
 have t4:(x.op==16)=false:=by rw[hop];rfl
 have t5:(x.op==5)=true:=by rw[hop];rfl
 have hdI:(d:Int)<(f.vals.length:Int):=by omega
 rw[hxd];clear hop hxd
 go_enter Tryz.func96,Tryz.ntmps96
 go_upto_region 1 with fail
 generalize hW:World.alloc _ _=W1 at *
 have hb1:Below w.heap.size w W1:=by rw[←hW];exact(by repeat(first|assumption|exact v9r|apply zc|apply zd|apply zg|apply ze|apply zi))
 have bc:Box W1 w.heap.size [.int .i64 x.op,.int .i64 (d:Int),.int .i64 x.a,.int .i64 x.b,.int .i64 x.n,.string x.cls,.string x.name,.slice AI x.args.length cI,.int .i64 x.jmp,.int .i64 x.hnd] 59:=by rw[←hW];exact Box.new _ _ _
 clear hW;have y0:=bc.cell 0 rfl;have yl:=bc.lt;have hF1:=hF.mono hb1;have hO1:=hO.mono hb1;have bm1:=bm.mono hb1;have hS1:=hS.mono hb1;have hK1:KpM lo [101,63] w W1:=KpM.below hb1;clear hF hO bm hS hb1;have q3:=bm1.cell 3 rfl;have qf:=fun i=>bm1.free i
 have ql:=bm1.lt
 cases l with
 |nil=>
  go_upto_region 15 with fail
  clear y0 yl q3 qf ql hS1;refine zt 9 (by kernel_rfl) (by kernel_rfl) ?_;have hF3:=hF1.mono (zd (v9r));have hO3:=hO1.mono (zd (v9r));have bm3:=bm1.drew;have hK3:=hK1.trans (KpM.below (zd (v9r)));have bc3:=bc.drew;clear hF1 hO1 hK1 bm1 bc;generalize W1.drew=W3 at *
  have y1:=bc3.cell 1 rfl;have yl:=bc3.lt;have f4:=hF3.cell (j:=4) (u:= .slice (some ⟨g,0,none⟩) f.vals.length f.vals.length) rfl;have fl:=hF3.ltF.2;have HN:=v9h (jm 0 W3);refine RZ.chunkN (f:=2) [0,1,2,3,4,5,6] (by kernel_rfl) ?_
  ((simp only[zo,List.filterMap,List.getElem?_toArray,List.getElem?_cons_zero,List.getElem?_cons_succ]);(repeat(go_big_quiet_step (fail)));refine wpQuiet_nil ?_)
  refine RZ.single 7 rfl (by kernel_rfl) (by omega) ?_;intro K hK
  go_wp2_with fail
  refine HN.out.mono ?_;rintro e W4 ⟨rfl,hb4⟩
  go_wp2_with fail
  refine hK _ _ hb4 ?_;have hF4:=hF3.mono hb4;have hO4:=hO3.mono hb4;have hK4:=hK3.trans (KpM.below hb4);have bm4:=bm3.mono hb4;clear hK K hF3 hO3 hK3 bm3 bc3 y1 yl f4 fl HN hb4;refine RZ.chunkN (f:=0) [8] (by kernel_rfl) ?_
  ((simp only[zo,List.filterMap,List.getElem?_toArray,List.getElem?_cons_zero,List.getElem?_cons_succ]);(repeat(go_big_quiet_step (fail)));refine wpQuiet_nil ?_)
  (refine RZ.tail (by kernel_rfl) ?_;(simp only[List.drop_succ_cons,List.drop_zero]))
  obtain⟨⟨v0,v1,v2⟩,vf,vl⟩:=hF4.valCells hd
  go_wp2_with fail
  refine bodyPost_end (results_none rfl _ _ _) rfl ?_;obtain⟨e1,e2,e3⟩:=hF4.storeVal hO4 hd 1 0 0 rfl;have bm4:=bm4.keptM e3 (by decide);exact⟨rfl,AL,cL,hcL,fun W h=>h,bm4,e1,e2,hK4.trans (e3.wide (by simp))⟩
 |cons n l=>
  obtain⟨b,o,rfl,hbl,hc0⟩:=hS1.int_at (i:=0) (by simp);rw[Nat.add_zero] at hc0;replace hc0:W1.cell? ⟨b,o,none⟩=some (.int .i64 n):=hc0;rw[List.length_cons] at q3 bm1 hcL;have hlp:(0:Int)<((l.length+1:Nat):Int):=by omega
  have hl1:(1:Int)≤((l.length+1:Nat):Int):=by omega
  clear hS1
  by_cases hc1:cL=1
  ·subst hc1
   have hl0:l=[]:=List.eq_nil_of_length_eq_zero (by omega);subst hl0
   go_upto_region 15 with fail
   clear y0 yl hc0 hbl;have hgs:=zq W1 gm 3 (.slice (some ⟨b,o,none⟩) 0 0);have bm2:=bm1.set 3 (.slice (some ⟨b,o,none⟩) 0 0);have hF2:=hF1.keptTyI bm1.rowTyI (by decide) (by decide) hgs;have hO2:=hO1.keptTyI bm1.rowTyI (by decide) (by decide) hgs;have bc2:=bc.keptTyI bm1.rowTyI (by decide) hgs;have hK2:=hK1.trans (KpM.row (ts:=[101,63]) hgs bm1.rowTyI (by simp) (fun k e=>by injection e with e;omega));clear q3 qf ql hgs hF1 hO1 hK1 bm1 bc;generalize World.setCell _ _ _=W2 at *
   have hF1:=hF2;have hO1:=hO2;have hK1:=hK2;have bm1:=bm2;have bc:=bc2;clear hF2 hO2 hK2 bm2 bc2;refine zt 9 (by kernel_rfl) (by kernel_rfl) ?_;have hF3:=hF1.mono (zd (v9r));have hO3:=hO1.mono (zd (v9r));have bm3:=bm1.drew;have hK3:=hK1.trans (KpM.below (zd (v9r)));have bc3:=bc.drew;clear hF1 hO1 hK1 bm1 bc;generalize W2.drew=W3 at *
   have y1:=bc3.cell 1 rfl;have yl:=bc3.lt;have f4:=hF3.cell (j:=4) (u:= .slice (some ⟨g,0,none⟩) f.vals.length f.vals.length) rfl;have fl:=hF3.ltF.2;have HN:=v9h (jm n W3);refine RZ.chunkN (f:=2) [0,1,2,3,4,5,6] (by kernel_rfl) ?_
   ((simp only[zo,List.filterMap,List.getElem?_toArray,List.getElem?_cons_zero,List.getElem?_cons_succ]);(repeat(go_big_quiet_step (fail)));refine wpQuiet_nil ?_)
   refine RZ.single 7 rfl (by kernel_rfl) (by omega) ?_;intro K hK
   go_wp2_with fail
   refine HN.out.mono ?_;rintro e W4 ⟨rfl,hb4⟩
   go_wp2_with fail
   refine hK _ _ hb4 ?_;have hF4:=hF3.mono hb4;have hO4:=hO3.mono hb4;have hK4:=hK3.trans (KpM.below hb4);have bm4:=bm3.mono hb4;clear hK K hF3 hO3 hK3 bm3 bc3 y1 yl f4 fl HN hb4;refine RZ.chunkN (f:=0) [8] (by kernel_rfl) ?_
   ((simp only[zo,List.filterMap,List.getElem?_toArray,List.getElem?_cons_zero,List.getElem?_cons_succ]);(repeat(go_big_quiet_step (fail)));refine wpQuiet_nil ?_)
   (refine RZ.tail (by kernel_rfl) ?_;(simp only[List.drop_succ_cons,List.drop_zero]))
   obtain⟨⟨v0,v1,v2⟩,vf,vl⟩:=hF4.valCells hd
   go_wp2_with fail
   refine bodyPost_end (results_none rfl _ _ _) rfl ?_;obtain⟨e1,e2,e3⟩:=hF4.storeVal hO4 hd 1 n 0 rfl;have bm4:=bm4.keptM e3 (by decide);exact⟨rfl,_,0,Nat.le_refl _,fun W h=>Sl.nil,bm4,e1,e2,hK4.trans (e3.wide (by simp))⟩
  ·have hcI:¬((cL:Int)-1=0):=by omega
   go_upto_region 15 with fail
   clear y0 yl hc0 hbl;have hgs:=zq W1 gm 3 (.slice (some ⟨b,o+1,none⟩) l.length (cL-1));have bm2:=bm1.set 3 (.slice (some ⟨b,o+1,none⟩) l.length (cL-1));have hF2:=hF1.keptTyI bm1.rowTyI (by decide) (by decide) hgs;have hO2:=hO1.keptTyI bm1.rowTyI (by decide) (by decide) hgs;have bc2:=bc.keptTyI bm1.rowTyI (by decide) hgs;have hK2:=hK1.trans (KpM.row (ts:=[101,63]) hgs bm1.rowTyI (by simp) (fun k e=>by injection e with e;omega));clear q3 qf ql hgs hF1 hO1 hK1 bm1 bc;generalize World.setCell _ _ _=W2 at *
   have hF1:=hF2;have hO1:=hO2;have hK1:=hK2;have bm1:=bm2;have bc:=bc2;clear hF2 hO2 hK2 bm2 bc2;refine zt 9 (by kernel_rfl) (by kernel_rfl) ?_;have hF3:=hF1.mono (zd (v9r));have hO3:=hO1.mono (zd (v9r));have bm3:=bm1.drew;have hK3:=hK1.trans (KpM.below (zd (v9r)));have bc3:=bc.drew;clear hF1 hO1 hK1 bm1 bc;generalize W2.drew=W3 at *
   have y1:=bc3.cell 1 rfl;have yl:=bc3.lt;have f4:=hF3.cell (j:=4) (u:= .slice (some ⟨g,0,none⟩) f.vals.length f.vals.length) rfl;have fl:=hF3.ltF.2;have HN:=v9h (jm n W3);refine RZ.chunkN (f:=2) [0,1,2,3,4,5,6] (by kernel_rfl) ?_
   ((simp only[zo,List.filterMap,List.getElem?_toArray,List.getElem?_cons_zero,List.getElem?_cons_succ]);(repeat(go_big_quiet_step (fail)));refine wpQuiet_nil ?_)
   refine RZ.single 7 rfl (by kernel_rfl) (by omega) ?_;intro K hK
   go_wp2_with fail
   refine HN.out.mono ?_;rintro e W4 ⟨rfl,hb4⟩
   go_wp2_with fail
   refine hK _ _ hb4 ?_;have hF4:=hF3.mono hb4;have hO4:=hO3.mono hb4;have hK4:=hK3.trans (KpM.below hb4);have bm4:=bm3.mono hb4;clear hK K hF3 hO3 hK3 bm3 bc3 y1 yl f4 fl HN hb4;refine RZ.chunkN (f:=0) [8] (by kernel_rfl) ?_
   ((simp only[zo,List.filterMap,List.getElem?_toArray,List.getElem?_cons_zero,List.getElem?_cons_succ]);(repeat(go_big_quiet_step (fail)));refine wpQuiet_nil ?_)
   (refine RZ.tail (by kernel_rfl) ?_;(simp only[List.drop_succ_cons,List.drop_zero]))
   obtain⟨⟨v0,v1,v2⟩,vf,vl⟩:=hF4.valCells hd
   go_wp2_with fail
   refine bodyPost_end (results_none rfl _ _ _) rfl ?_;obtain⟨e1,e2,e3⟩:=hF4.storeVal hO4 hd 1 n 0 rfl;have bm4:=bm4.keptM e3 (by decide);exact⟨rfl,_,cL-1,by show l.length≤_;omega,fun W h=>h.tl,bm4,e1,e2,hK4.trans (e3.wide (by simp))⟩
def ajE(w:World)(vI:Value)(l:List Int):Prop:=∃(A:Option Addr) (c:Nat),vI = .slice A l.length c∧l.length≤c∧Sl Lay.int w A l
def jF(u:Unt)(w:World)(b:Nat):Prop:=∃(n:Nat) (f:Int×Int→Option Int),MapE kP w b n f∧∀i k,i<u.funcs.length→k<(zb u i).code.length→(zh (zb u i) k).op=6→f ((i:Int),(k:Int))=some (siteNo u i k:Int)
theorem jF.keptM{u:Unt}{lo:Nat}{ts:List TypeId}{w w':World}{b:Nat}(h:jF u w b)(hk:KpM lo ts w w'):jF u w' b:=by
 obtain⟨n,f,h1,h2⟩:=h;exact⟨n,f,h1.keptM hk,h2⟩
structure MSt(u:Unt)(w0 w:World)(gm:Nat)(AC AF:Option Addr)(cC cF:Nat)(vI vF vO:Value)(b4 b5 k:Nat)(m:Mch)(gs bs:List Nat):Prop where
 un:UnH w0 u AC AF cC
 hw:Below w0.heap.size w0 w
 hB:w0.heap.size≤gm
 bm:Box w gm [.slice AC u.classes.length cC,.slice AF u.funcs.length cF,.int .i64 u.main,vI,.map (some b4),.map (some b5),vF,.int .i64 (m.made:Int),vO,.int .i64 m.en] 101
 fr:zy w w0.heap.size vF m.frs gs
 ob:zN w w0.heap.size vO m.obs gs
 oj:yt u w b5 k m.objs bs
 si:jF u w b4
 inp:ajE w0 vI m.inp
 dis:b4∉b5::bs
 mlo:∀b∈b4::b5::bs,w0.heap.size≤b
 md:m.made≤k+1
 oc:m.objs.length≤k
def MNx(u:Unt)(w0:World)(gm:Nat)(AC AF:Option Addr)(cC cF:Nat)(b4 b5 k:Nat)(m:Mch)(w:World):Prop:=∃(vI vF vO:Value) (gs bs:List Nat),MSt u w0 w gm AC AF cC cF vI vF vO b4 b5 k m gs bs
section
variable {u:Unt} {w0 w w':World} {gm gF n cFr:Nat} {AC AF:Option Addr} {cC cF:Nat} {vI vF vO:Value} {b4 b5 k:Nat} {m:Mch} {gs bs:List Nat} {f:Frm} {r:List Frm}
theorem MSt.mono(H:MSt u w0 w gm AC AF cC cF vI vF vO b4 b5 k m gs bs)(hb:Below w.heap.size w w'):MSt u w0 w' gm AC AF cC cF vI vF vO b4 b5 k m gs bs:=
 ⟨H.un,za H.hw hb,H.hB,H.bm.mono hb,H.fr.mono hb,H.ob.mono hb,H.oj.mono hb,H.si.keptM (lo:=0) (ts:=[]) (KpM.below hb),H.inp,H.dis,H.mlo,H.md,H.oc⟩
theorem MSt.funs(H:MSt u w0 w gm AC AF cC cF vI vF vO b4 b5 k m gs bs):Sl Lay.fun w AF u.funcs:=(H.un.mono H.hw).hf
theorem MSt.clss(H:MSt u w0 w gm AC AF cC cF vI vF vO b4 b5 k m gs bs):Sl Lay.cls w AC u.classes:=(H.un.mono H.hw).hs
theorem MSt.lo(H:MSt u w0 w gm AC AF cC cF vI vF vO b4 b5 k m gs bs):w0.heap.size≤w.heap.size:=H.hw.size
theorem MSt.turn(H:MSt u w0 w gm AC AF cC cF vI vF vO b4 b5 k m gs bs){ts:List TypeId}(hk:KpM w0.heap.size ts w w'){vF' vO':Value}{m':Mch}{gs':List Nat}{k':Nat}(hkk:k≤k')
  (bm:Box w' gm [.slice AC u.classes.length cC,.slice AF u.funcs.length cF,.int .i64 u.main,vI,.map (some b4),.map (some b5),vF',.int .i64 (m'.made:Int),vO',.int .i64 m'.en] 101)
  (fr:zy w' w0.heap.size vF' m'.frs gs') (ob:zN w' w0.heap.size vO' m'.obs gs') (hi:m'.inp=m.inp) (ho:m'.objs=m.objs) (hm:m'.made≤k'+1):MSt u w0 w' gm AC AF cC cF vI vF' vO' b4 b5 k' m' gs' bs:=
 ⟨H.un,H.hw.trans (hk.toBelow H.hw.size),H.hB,bm,fr,ob,by rw[ho];exact(H.oj.keptM hk).more hkk,H.si.keptM hk,by rw[hi];exact H.inp,H.dis,H.mlo,hm,by rw[ho];exact Nat.le_trans H.oc hkk⟩
theorem MSt.read(H:MSt u w0 w gm AC AF cC cF vI (.slice (some ⟨gF,0,none⟩) n cFr) vO b4 b5 k m gs bs)(hf:m.frs=f::r)(hfn:f.fn<u.funcs.length)(hl:f.vals.length=(zb u f.fn).vars.length){v:Int}(hv:varB (zb u f.fn).vars.length v=true)(W:World)(hb:Below w.heap.size w W) :
  Calls Tryz.prog 90 #[.pointer (some ⟨gm,0,none⟩),.pointer (some ⟨gF,r.length*8,none⟩),.int .i64 v] W fun e w'=>e = .returned (vlV (rdV (zb u f.fn) f.vals v))∧Below W.heap.size W w':=by
 have H':=H.mono hb;obtain⟨h0,h1⟩:=yK.1 hv;have hfr:=H'.fr;rw[hf] at hfr;obtain⟨gF',cF',e⟩:=hfr.form;injection e with e1 e2 e3
 injection e1 with e1
 injection e1 with e1 _ _
 subst e1 e2;obtain⟨g,q,rfl,hq⟩:=hfr.gsForm;have hk:v.toNat<f.vals.length:=by rw[hl];omega
 have:=ajl u.funcs AF cF W gm gF (r.length*8) g w0.heap.size f.fn v.toNat f.vals hfn H'.funs H'.bm.lt (H'.bm.cell 1 rfl) hfr.ltF.2 (by have:=hfr.cell (j:=0) (u:= .int .i64 (f.fn:Int)) rfl;rwa[Nat.add_zero] at this) (hfr.cell rfl) hfr.top hk (by rw[←zv hfn];omega);rw[Int.toNat_of_nonneg h0] at this;rw[←zv hfn] at this;exact this
theorem MSt.setEn(H:MSt u w0 w gm AC AF cC cF vI vF vO b4 b5 k m gs bs)(e:Int):MSt u w0 (w.setCell ⟨gm,9,none⟩ (.int .i64 e)) gm AC AF cC cF vI vF vO b4 b5 k { m with en:=e} gs bs:=
 have hg:=zq w gm 9 (.int .i64 e)
 H.turn (ts:=[101]) (KpM.row hg H.bm.rowTyI (by simp) (fun k e=>by injection e with e;have:=H.hB;omega)) (Nat.le_refl _) (H.bm.set 9 _) (H.fr.keptTyI H.bm.rowTyI (by decide) (by decide) hg) (H.ob.keptTyI H.bm.rowTyI (by decide) (by decide) hg) rfl rfl H.md
theorem MSt.frm(H:MSt u w0 w gm AC AF cC cF vI (.slice (some ⟨gF,0,none⟩) (r.length+1) cFr) vO b4 b5 k m gs bs)(hf:m.frs=f::r):∃g q,gs=g::q∧zy w w0.heap.size (.slice (some ⟨gF,0,none⟩) (r.length+1) cFr) (f::r) (g::q):=by
 have hfr:=H.fr;rw[hf] at hfr;obtain⟨g,q,rfl,_⟩:=hfr.gsForm;exact⟨g,q,rfl,hfr⟩
theorem MSt.form(H:MSt u w0 w gm AC AF cC cF vI vF vO b4 b5 k m gs bs)(hf:m.frs=f::r):∃gF cFr,vF = .slice (some ⟨gF,0,none⟩) (r.length+1) cFr:=by
 have hfr:=H.fr;rw[hf] at hfr;exact hfr.form
theorem MSt.at(H:MSt u w0 w gm AC AF cC cF vI (.slice (some ⟨gF,0,none⟩) (r.length+1) cFr) vO b4 b5 k m gs bs)(hf:m.frs=f::r)(i:Nat):MSt u w0 (w.setCell ⟨gF,r.length*8+1,none⟩ (.int .i64 (i:Int))) gm AC AF cC cF vI (.slice (some ⟨gF,0,none⟩) (r.length+1) cFr) vO b4 b5 k { m with frs:={ f with at_:=i}::r} gs bs:=by
 obtain⟨g,q,rfl,hfr⟩:=H.frm hf;obtain⟨a1,a2,a3⟩:=hfr.storeAt H.ob i rfl;exact H.turn a3 (Nat.le_refl _) (H.bm.keptM a3 (by decide)) a1 a2 rfl rfl H.md
theorem MSt.val(H:MSt u w0 w gm AC AF cC cF vI (.slice (some ⟨gF,0,none⟩) (r.length+1) cFr) vO b4 b5 k m gs bs)(hf:m.frs=f::r){g:Nat}{q:List Nat}(hgs:gs=g::q){d:Nat}(hd:d<f.vals.length)(a b c:Int):MSt u w0 (((w.setCell ⟨g,d*3,none⟩ (.int .i64 a)).setCell ⟨g,d*3+1,none⟩ (.int .i64 b)).setCell ⟨g,d*3+2,none⟩ (.int .i64 c)) gm AC AF cC cF vI (.slice (some ⟨gF,0,none⟩) (r.length+1) cFr) vO b4 b5 k { m with frs:={ f with vals:=f.vals.set d (a,b,c)}::r} gs bs:=by
 subst hgs;have hfr:=H.fr;rw[hf] at hfr;obtain⟨a1,a2,a3⟩:=hfr.storeVal H.ob hd a b c rfl;exact H.turn a3 (Nat.le_refl _) (H.bm.keptM a3 (by decide)) a1 a2 rfl rfl H.md
end
theorem abd(a:Act)(v:Value):a.put none v=a:=rfl
theorem yt.lookL{u:Unt}{w:World}{bo cnt:Nat}{objs:List Hob}{bs:List Nat}(h:yt u w bo cnt objs bs){k:Nat}(hk:k<objs.length)(hi:qL (k:Int)):∃b,bs[k]? = some b∧∀z:zk w,(Instr.lookup 98 (.map (some bo)) (.int .i64 (k:Int)) false).run Tryz.prog z.W = .ok (.agg #[.string objs[k].cls,.map (some b)]) z.W:=by
 obtain⟨b,hb,_⟩:=h.look hk hi;refine⟨b,hb,fun z=>?_⟩;obtain⟨b',hb',h2⟩:=(h.mono z.h).look hk hi;rw[hb] at hb';injection hb' with hb'
 subst hb';exact h2
def ah6(u:Unt)(w:World)(lo gm b4 b5 cnt:Nat)(cM:List Value)(vF vO:Value)(f:Frm)(r:List Frm)(g:Nat)(q:List Nat)(obs:List Obv)(d:Nat)(site:Int)(objs:List Hob)(bs:List Nat)(cl:ByteArray)(w':World):Prop:=∃b:Nat,w.heap.size≤b∧Box w' gm cM 101∧zy w' lo vF ({ f with vals:=f.vals.set d (3,(objs.length:Int),site)}::r) (g::q)∧zN w' lo vO obs (g::q)∧yt u w' b5 cnt (objs++[qy u cl]) (bs++[b])∧jF u w' b4∧Below lo w w'
theorem ahL(u:Unt)(w:World)(lo gm gF cF g b4 b5 cnt:Nat)(c0 c1 c2 c3 c7 c8 c9 vO:Value)(f:Frm)(r:List Frm)(q:List Nat)(obs:List Obv)(objs:List Hob)(bs:List Nat)(x:Ins)(AI:Option Addr)(cI d:Nat)(hop:x.op=6)(hxd:x.dst=(d:Int))(hd:d<f.vals.length)(hgm:lo≤gm)(hlo:lo≤w.heap.size)
  (bm:Box w gm [c0,c1,c2,c3,.map (some b4),.map (some b5),.slice (some ⟨gF,0,none⟩) (r.length+1) cF,c7,c8,c9] 101)
  (hF:zy w lo (.slice (some ⟨gF,0,none⟩) (r.length+1) cF) (f::r) (g::q)) (hO:zN w lo vO obs (g::q)) (hJ:yt u w b5 cnt objs bs) (hJn:objs.length≤100000) (hJlo:lo≤b5) (hS:jF u w b4) (h45:b4≠b5) (site:Nat)
  (hfn:f.fn<u.funcs.length) (hfnl:u.funcs.length≤100000) (hat:f.at_<(zb u f.fn).code.length) (hatl:f.at_≤100000) (hins:(zh (zb u f.fn) f.at_).op=6) (hsite:site=siteNo u f.fn f.at_) :
  Calls Tryz.prog 96 #[.pointer (some ⟨gm,0,none⟩),.pointer (some ⟨gF,r.length*8,none⟩),.agg #[.int .i64 x.op,.int .i64 x.dst,.int .i64 x.a,.int .i64 x.b,.int .i64 x.n,.string x.cls,.string x.name,.slice AI x.args.length cI,.int .i64 x.jmp,.int .i64 x.hnd]] w fun e w'=>e = .returned (.tuple #[])∧ah6 u w lo gm b4 b5 cnt [c0,c1,c2,c3,.map (some b4),.map (some b5),.slice (some ⟨gF,0,none⟩) (r.length+1) cF,c7,c8,c9] (.slice (some ⟨gF,0,none⟩) (r.length+1) cF) vO f r g q obs d (site:Int) objs bs x.cls w':=by
 have t1:(x.op==1)=false:=by rw[hop];rfl
 have t2:(x.op==2)=false:=by rw[hop];rfl
 have t3:(x.op==3)=false:=by rw[hop];rfl
 have t4:(x.op==16)=false:=by rw[hop];rfl
 have t5:(x.op==5)=false:=by rw[hop];rfl
 have t6:(x.op==4)=false:=by rw[hop];rfl
 have t7:(x.op==6)=true:=by rw[hop];rfl
 have hdI:(d:Int)<(f.vals.length:Int):=by omega
 rw[hxd];clear hop hxd;replace hsite:=v9h hsite
 go_enter Tryz.func96,Tryz.ntmps96
 go_upto_region 1 with fail
 generalize hW:World.alloc _ _=W1 at *
 have hb1:Below w.heap.size w W1:=by rw[←hW];exact(by repeat(first|assumption|exact v9r|apply zc|apply zd|apply zg|apply ze|apply zi))
 have bc:Box W1 w.heap.size [.int .i64 x.op,.int .i64 (d:Int),.int .i64 x.a,.int .i64 x.b,.int .i64 x.n,.string x.cls,.string x.name,.slice AI x.args.length cI,.int .i64 x.jmp,.int .i64 x.hnd] 59:=by rw[←hW];exact Box.new _ _ _
 clear hW;have y0:=bc.cell 0 rfl;have yl:=bc.lt;have hF1:=hF.mono hb1;have hO1:=hO.mono hb1;have bm1:=bm.mono hb1;have hJ1:=hJ.mono hb1;have hS1:jF u W1 b4:=hS.keptM (lo:=0) (ts:=[]) (KpM.below hb1);clear hF hO bm hJ hS;obtain⟨fo,hfo,hfo2,hfo3⟩:=hJ1.map;have hln:=fun ty=>hfo.len ty
 have q5:=bm1.cell 5 rfl;have ql:=bm1.lt
 go_upto_region 20 with fail
 clear hln q5 ql y0 yl;refine zt 9 (by kernel_rfl) (by kernel_rfl) ?_;have hF3:=hF1.mono (zd (v9r));have hO3:=hO1.mono (zd (v9r));have bm3:=bm1.drew;have bc3:=bc.drew;have hJ3:=hJ1.mono (zd (v9r));have hS3:jF u W1.drew b4:=hS1.keptM (lo:=0) (ts:=[]) (KpM.below (zd (v9r)));have hfo3':MapE kE W1.drew b5 objs.length fo:=hfo.mono (zd (v9r));have hb3:=hb1.drew;clear hF1 hO1 bm1 bc hJ1 hS1 hfo hb1;generalize W1.drew=W3 at *
 have q5:=bm3.cell 5 rfl;have ql:=bm3.lt;have y5:=bc3.cell 5 rfl;have yl:=bc3.lt;refine RZ.chunkN (f:=2) [0,1,2,3,4,5,6] (by kernel_rfl) ?_
 ((simp only[zo,List.filterMap,List.getElem?_toArray,List.getElem?_cons_zero,List.getElem?_cons_succ]);(repeat(go_big_quiet_step (fail)));refine wpQuiet_nil ?_)
 clear q5 ql y5 yl;refine RZ.single 7 rfl (by kernel_rfl) (by omega) ?_;intro K hK;have hmk:=qO (P:=Tryz.prog) 175 9 63 Tryz.underlying175
 go_wp2_with fail
 clear hmk;have hb34:Below W3.heap.size W3 (W3.alloc (.map #[] 0)):=zc (v9r);refine hK _ _ hb34 ?_;clear hK;have hmd:MapE qI (W3.alloc (.map #[] 0)) W3.heap.size 0 (fun _=>none):=MapE.made qI W3;have hF4:=hF3.mono hb34;have hO4:=hO3.mono hb34;have bm4:=bm3.mono hb34;have bc4:=bc3.mono hb34;have hS4:jF u (W3.alloc (.map #[] 0)) b4:=hS3.keptM (lo:=0) (ts:=[]) (KpM.below hb34);have hfo4:=hfo3'.mono hb34;have hb4:=za hb3 hb34;have hb5l:b5<W3.heap.size:=hfo3'.lt;clear hF3 hO3 bm3 bc3 hS3;generalize World.alloc W3 _=W4 at *
 refine RZ.chunkN (f:=0) [8] (by kernel_rfl) ?_
 ((simp only[zo,List.filterMap,List.getElem?_toArray,List.getElem?_cons_zero,List.getElem?_cons_succ]);(repeat(go_big_quiet_step (fail)));refine wpQuiet_nil ?_)
 (refine RZ.tail (by kernel_rfl) ?_;(simp only[List.drop_succ_cons,List.drop_zero]))
 have hno:(fo (objs.length:Int)).isSome=false:=by rw[hfo3 _ (by omega)];rfl
 go_upto_region 21 with(at_mapUpdate;refine kf kE rfl (.tmp 129) (.tmp 130) (.tmp 134) rfl b5 objs.length fo rfl hfo4 (by unfold maxLen;omega) (objs.length:Int) (x.cls,some W3.heap.size) rfl rfl (yY (by omega) (by omega)) ?_;intro W5 hm5 hg5)
 rw[hno,if_neg (by simp)] at hm5;have hC5:KpC W4 W5:=KpC.map hg5 (fun _ _ _=>hfo4.noCells);have hF5:=hF4.keptC hC5;have hO5:=hO4.keptC hC5;have bm5:=bm4.keptC hC5;have bc5:=bc4.keptC hC5;have hbl5:Below lo w W5:=(hb4.mono hlo).trans (aas hg5 (Nat.le_trans hlo hb4.size) (fun k hk=>by injection hk with hk;omega))
 have hS5:jF u W5 b4:=by
  obtain⟨n,fs,h1,h2⟩:=hS4;exact⟨n,fs,h1.kept hg5 (fun e=>h45 (by injection e)),h2⟩
 have hJ5:yt u W5 b5 cnt (objs++[qy u x.cls]) (bs++[W3.heap.size]):=hJ3.new rfl hfo3' hfo2 hfo3 hm5 (hmd.kept hg5 (fun e=>by injection e with e;omega)) (fun c hc n f h=>(h.mono hb34).kept hg5 (fun e=>by
  injection e with e
  have:=(List.nodup_cons.1 hJ3.nod).1;exact this (by rw[←e];exact hc)))
 have hbw:w.heap.size≤W3.heap.size:=hb3.size;clear hno hfo4 hm5 hg5 hC5 hF4 hO4 bm4 bc4 hS4 hJ3 hmd hfo3' hfo2 hfo3 hb34 hb4 hb3 K;rw[abd];refine zt 23 (by kernel_rfl) (by kernel_rfl) ?_;have hF6:=hF5.mono (zd (v9r));have hO6:=hO5.mono (zd (v9r));have bm6:=bm5.drew;have bc6:=bc5.drew;have hJ6:=hJ5.mono (zd (v9r));have hS6:jF u W5.drew b4:=hS5.keptM (lo:=0) (ts:=[]) (KpM.below (zd (v9r)));have hbl6:Below lo w W5.drew:=hbl5.drew;clear hF5 hO5 bm5 bc5 hJ5 hS5 hbl5;generalize W5.drew=W6 at *
 have hlk:∀z:zk W6,(Instr.lookup 97 (.map (some b4)) (.agg #[.int .i64 (f.fn:Int),.int .i64 (f.at_:Int)]) false).run Tryz.prog z.W = .ok (.int .i64 (site:Int)) z.W:=fun z=>by
  obtain⟨n,fs,h1,h2⟩:=hS6;have h3:=(h1.later z).look (x:=((f.fn:Int),(f.at_:Int))) ⟨yY (by omega) (by omega),yY (by omega) (by omega)⟩;rw[h2 f.fn f.at_ hfn hat hins,←hsite.out] at h3;exact h3
 have q4:=bm6.cell 4 rfl;have ql:=bm6.lt;have y1:=bc6.cell 1 rfl;have yl:=bc6.lt;have f0:=hF6.cell (j:=0) (u:= .int .i64 (f.fn:Int)) rfl;rw[Nat.add_zero] at f0;have f1:=hF6.cell (j:=1) (u:= .int .i64 (f.at_:Int)) rfl;have f4:=hF6.cell (j:=4) (u:= .slice (some ⟨g,0,none⟩) f.vals.length f.vals.length) rfl;have fl:=hF6.ltF.2;refine RZ.chunkN (f:=0) [0,1,2,3,4,5,6,7,8,9,10,11,12,13,14,15,16,17,18,19,20,21,22] (by kernel_rfl) ?_
 ((simp only[zo,List.filterMap,List.getElem?_toArray,List.getElem?_cons_zero,List.getElem?_cons_succ]);(repeat(go_big_quiet_step (fail)));refine wpQuiet_nil ?_)
 (refine RZ.tail (by kernel_rfl) ?_;(simp only[List.drop_succ_cons,List.drop_zero]))
 clear hlk q4 ql y1 yl f0 f1 f4 fl bc6;obtain⟨⟨w0,w1,w2⟩,vf,vl⟩:=hF6.valCells hd
 go_wp2_with fail
 refine bodyPost_end (results_none rfl _ _ _) rfl ?_;obtain⟨e1,e2,e3⟩:=hF6.storeVal hO6 hd 3 (objs.length:Int) (site:Int) rfl;exact⟨rfl,_,hbw,bm6.keptM e3 (by decide),e1,e2,hJ6.keptM e3,hS6.keptM e3,hbl6.trans (e3.toBelow (Nat.le_trans hlo hbl6.size))⟩
theorem aiM(a b c d e:Int)(s t:ByteArray)(v:Value)(j h:Int)(W:World):(Instr.field 59 (.agg #[.int .i64 a,.int .i64 b,.int .i64 c,.int .i64 d,.int .i64 e,.string s,.string t,v,.int .i64 j,.int .i64 h]) 1).run Tryz.prog W = .ok (.int .i64 b) W:=by kernel_rfl
theorem zy.keptM{ts:List TypeId}{w w':World}{lo lo':Nat}{vF:Value}{frs:List Frm}{gs:List Nat}(h:zy w lo vF frs gs)(hk:KpM lo' ts w w')(h1:167∉ts)(h2:63∉ts):zy w' lo vF frs gs:=⟨h.len,h.row.keptM hk h1,fun i f g e1 e2=>(h.vals i f g e1 e2).keptM hk h2,h.nod⟩
def backF(f:Frm)(d:Int)(v:Vl):Frm:=if d = -1 then f.nx else f.st d v
def ah7(w:World)(lo gm gF cF:Nat)(c0 c1 c2 c3 c4 c5 c7 vO c9:Value)(f:Frm)(d:Int)(v:Vl)(r:List Frm)(q:List Nat)(obs:List Obv)(w':World):Prop:=Box w' gm [c0,c1,c2,c3,c4,c5,.slice (some ⟨gF,0,none⟩) (r.length+1) cF,c7,vO,c9] 101∧zy w' lo (.slice (some ⟨gF,0,none⟩) (r.length+1) cF) (backF f d v::r) q∧zN w' lo vO obs q∧KpM lo [101,63,167] w w'
theorem af4(w0 w:World)(gm gF cF:Nat)(AF:Option Addr)(cFn:Nat)(fs:List Fun)(c0 c2 c3 c4 c5 c7 vO c9:Value)(f f1:Frm)(r:List Frm)(g:Nat)(q:List Nat)(obs:List Obv)(x:Ins)(AI:Option Addr)(cI:Nat)(v:Vl)
  (hw:Below w0.heap.size w0 w) (sf:Sl Lay.fun w0 AF fs) (hgm:w0.heap.size≤gm)
  (bm:Box w gm [c0,.slice AF fs.length cFn,c2,c3,c4,c5,.slice (some ⟨gF,0,none⟩) (r.length+1+1) cF,c7,vO,c9] 101)
  (hF:zy w w0.heap.size (.slice (some ⟨gF,0,none⟩) ((f1::r).length+1) cF) (f::f1::r) (g::q)) (hO:zN w w0.heap.size vO obs (g::q)) (hrl:r.length≤1000)
  (hfn:f1.fn<fs.length) (hat:f1.at_<fs[f1.fn].code.length) (hatl:f1.at_≤100000) (dst:Int) (hdst:fs[f1.fn].code[f1.at_].dst=dst) (hd:dst = -1∨∃d:Nat,dst=(d:Int)∧d<f1.vals.length)
  (HR:Hid (x.a≠ -1→∀W,Below w.heap.size w W→Calls Tryz.prog 90 #[.pointer (some ⟨gm,0,none⟩),.pointer (some ⟨gF,(r.length+1)*8,none⟩),.int .i64 x.a] W fun e w'=>e = .returned (vlV v)∧Below W.heap.size W w')) (hv:x.a = -1→v=(0,0,0)) :
  Calls Tryz.prog 92 #[.pointer (some ⟨gm,0,none⟩),.pointer (some ⟨gF,(r.length+1)*8,none⟩),.agg #[.int .i64 x.op,.int .i64 x.dst,.int .i64 x.a,.int .i64 x.b,.int .i64 x.n,.string x.cls,.string x.name,.slice AI x.args.length cI,.int .i64 x.jmp,.int .i64 x.hnd]] w fun e w'=>e = .returned (.tuple #[])∧ah7 w w0.heap.size gm gF cF c0 (.slice AF fs.length cFn) c2 c3 c4 c5 c7 vO c9 f1 dst v r q obs w':=by
 obtain⟨v1,v2,v3⟩:=v;rw[show vlV (v1,v2,v3) = .agg #[.int .i64 v1,.int .i64 v2,.int .i64 v3] from rfl] at HR;have hcap:r.length+1+1≤cF:=Own.capLe hF.row (by rw[je hF];rfl);obtain⟨lo,hlo⟩:∃lo,lo=w0.heap.size:=⟨_,rfl⟩
 have HSF:Hid (∀W,KpM lo [101,63,167] w W→Sl Lay.fun W AF fs):=fun W h=>sf.mono (hw.trans ((hlo▸h:KpM w0.heap.size _ w W).toBelow hw.size))
 rw[←hlo] at hF hO hgm ⊢;clear sf hw hlo;obtain⟨b,hb⟩:∃b,(x.a != -1)=b:=⟨_,rfl⟩
 go_enter Tryz.func92,Tryz.ntmps92
 go_upto_region 2 with fail
 generalize hW:World.alloc (World.alloc _ _) _=W1 at *
 have hb1:Below w.heap.size w W1:=by rw[←hW];exact(by repeat(first|assumption|exact v9r|apply zc|apply zd|apply zg|apply ze|apply zi))
 have bc:Box W1 w.heap.size [.int .i64 x.op,.int .i64 x.dst,.int .i64 x.a,.int .i64 x.b,.int .i64 x.n,.string x.cls,.string x.name,.slice AI x.args.length cI,.int .i64 x.jmp,.int .i64 x.hnd] 59:=by rw[←hW];exact(Box.new _ _ _).alloc _
 have br:Box W1 (w.heap.size+1) [.int .i64 0,.int .i64 0,.int .i64 0] 63:=by rw[←hW];exact Box.at (w:=w.alloc _) (by simp)
 clear hW;have hK1:KpM lo [] w W1:=KpM.below hb1;have y2:=bc.cell 2 rfl;have yl:=bc.lt
 cases b
 case' false=>
  have hv0:x.a = -1:=by simpa[bne] using hb
  have hz:=hv hv0;injection hz with hz1 hz2
  injection hz2 with hz2 hz3
  clear hv0 hv HR
  go_upto_region 4 with fail
  clear y2 yl bc hb hb1;obtain⟨W1',rfl⟩:∃W,W=W1:=⟨W1,rfl⟩
  have hK3:=hK1;have br3:Box W1' (w.heap.size+1) [.int .i64 v1,.int .i64 v2,.int .i64 v3] 63:=by rw[hz1,hz2,hz3];exact br
  clear hK1 br hz1 hz2 hz3
 case' true=>
  have hne:x.a≠ -1:=by simpa[bne] using hb
  have HC:=v9h (HR.out hne W1 hb1);clear hv HR hne
  go_wp2_with fail
  refine HC.out.mono ?_;rintro e W2 ⟨rfl,hb2⟩;have br2:=br.mono hb2;have hK2:=hK1.trans (KpM.below hb2);clear y2 yl bc br hb HC hK1 hb2 hb1;have z0:=br2.cell 0 rfl;have z1:=br2.cell 1 rfl;have z2:=br2.cell 2 rfl;have zf:=fun i=>br2.free i
  have zl:=br2.lt
  go_upto_region 4 with fail
  clear z0 z1 z2 zf zl;obtain⟨bz,hgz⟩:=br2.store3 (.int .i64 v1) (.int .i64 v2) (.int .i64 v3);have hK3:=hK2.new hgz (Nat.le_succ _);have br3:=bz;clear hgz hK2 br2 bz;generalize World.setCell _ _ _=W1' at *
  clear W2
 all_goals
  have e1:((r.length+1+1:Nat):Int)-1=((r.length+1:Nat):Int):=by omega
  have e2:((r.length+1:Nat):Int)≤(cF:Int):=by omega
  have e3:(((r.length+1:Nat):Int)==0)=false:=by rw[beq_eq_false_iff_ne];omega
  refine zt 12 (by kernel_rfl) (by kernel_rfl) ?_;have hK4:KpM lo [] w W1'.drew:=hK3.trans (KpM.below (zd (v9r)));have br4:=br3.drew;clear hK3 br3;generalize W1'.drew=W3 at *
  have bm4:=bm.keptM hK4 (by simp);have hF4:=hF.keptM hK4 (by simp) (by simp);have hO4:=hO.keptM hK4 (by simp) (by simp);have hK5:KpM lo [101,63,167] w W3:=hK4.wide (by simp);clear hK4 bm hF hO;have q6:=bm4.cell 6 rfl;have ql:=bm4.lt;refine RZ.chunkN (f:=0) [0,1,2,3,4,5,6,7,8,9,10,11] (by kernel_rfl) ?_
  ((simp only[zo,List.filterMap,List.getElem?_toArray,List.getElem?_cons_zero,List.getElem?_cons_succ]);(repeat(go_big_quiet_step (fail)));refine wpQuiet_nil ?_)
  (refine RZ.tail (by kernel_rfl) ?_;(simp only[List.drop_succ_cons,List.drop_zero]))
  have qf:=fun i=>bm4.free i
  go_upto_region 5 with fail
  have hg5:=zq W3 gm 6 (.slice (some ⟨gF,0,none⟩) (r.length+1) cF);have bm5:=bm4.set 6 (.slice (some ⟨gF,0,none⟩) (r.length+1) cF);have hF5:=(hF4.keptTyI bm4.rowTyI (by decide) (by decide) hg5).pop;have hO5:=(hO4.keptTyI bm4.rowTyI (by decide) (by decide) hg5).blocks (gs':=q) (fun b hb=>Or.inl (by simp[hb]));have hK6:=hK5.trans (KpM.row (ts:=[101,63,167]) hg5 bm4.rowTyI (by simp) (fun k e=>by injection e with e;omega));have br5:Box _ (w.heap.size+1) [.int .i64 v1,.int .i64 v2,.int .i64 v3] 63:=br4.keptTyI bm4.rowTyI (by decide) hg5;clear q6 ql qf hg5 bm4 hF4 hO4 hK5 br4 e1 e2;generalize World.setCell _ _ _=W5 at *
  replace bm5:Box W5 gm [c0,.slice AF fs.length cFn,c2,c3,c4,c5,.slice (some ⟨gF,0,none⟩) (r.length+1) cF,c7,vO,c9] 101:=bm5;replace hF5:zy W5 lo (.slice (some ⟨gF,0,none⟩) (r.length+1) cF) (f1::r) q:=hF5;obtain⟨g1,q1,rfl,hq1⟩:=hF5.gsForm;have HT:=v9h (yT W5 gm gF r.length cF bm5.lt (by omega) (bm5.cell 6 rfl));have q6:=bm5.cell 6 rfl;have ql:=bm5.lt
  go_wp2_with fail
  refine HT.out.mono ?_;rintro e W6 ⟨rfl,hb6⟩;have bm6:=bm5.mono hb6;have hF6:=hF5.mono hb6;have hO6:=hO5.mono hb6;have hK7:=hK6.trans (KpM.below hb6);have br6:=br5.mono hb6;clear HT q6 ql bm5 hF5 hO5 hK6 br5 hb6 e3;have HI:=v9h (yZ fs AF cFn W6 gm gF (r.length*8) f1.fn f1.at_ hfn hat (HSF.out W6 hK7) bm6.lt hF6.ltF.2 (bm6.cell 1 rfl) (by have:=hF6.cell (j:=0) (u:= .int .i64 (f1.fn:Int)) rfl;rwa[Nat.add_zero] at this) (hF6.cell (j:=1) rfl))
  go_wp2_with fail
  refine HI.out.mono ?_;rintro e W7 ⟨hR,hb7⟩;obtain⟨AI2,cI2,rfl,-,-⟩:=hR;rw[hdst];have bm7:=bm6.mono hb7;have hF7:=hF6.mono hb7;have hO7:=hO6.mono hb7;have hK8:=hK7.trans (KpM.below hb7);have br7:=br6.mono hb7;clear HI bm6 hF6 hO6 hK7 br6 hb7 HSF;have hfd:=aiM
  rcases hd with hd|⟨d,hd,hdl⟩
  ·subst hd
   have f1c:=hF7.cell (j:=1) (u:= .int .i64 (f1.at_:Int)) rfl;have ff:=fun i=>hF7.freeF i
   have fl:=hF7.ltF.2
   go_wp2_with fail
   refine bodyPost_end (results_none rfl _ _ _) rfl ?_;clear f1c ff fl;obtain⟨a1,a2,a3⟩:=hF7.storeAt hO7 (f1.at_+1) (w':=W7.setCell ⟨gF,r.length*8+1,none⟩ (.int .i64 ((f1.at_+1:Nat):Int))) rfl;exact⟨rfl,bm7.keptM a3 (by decide),a1,a2,hK8.trans (a3.wide (by simp))⟩
  ·subst hd
   have e4:((d:Int) != -1)=true:=by rw[bne_iff_ne];omega
   have hdI:(d:Int)<(f1.vals.length:Int):=by omega
   go_upto_region 10 with fail
   refine zt 7 (by kernel_rfl) (by kernel_rfl) ?_;have bm8:=bm7.drew;have hF8:=hF7.mono (zd (v9r));have hO8:=hO7.mono (zd (v9r));have hK9:KpM lo [101,63,167] w W7.drew:=hK8.trans (KpM.below (zd (v9r)));have br8:=br7.drew;clear bm7 hF7 hO7 hK8 br7 hfd;generalize W7.drew=W8 at *
   have z0:=br8.cell 0 rfl;have z1:=br8.cell 1 rfl;have z2:=br8.cell 2 rfl;have zl:=br8.lt;have f4:=hF8.cell (j:=4) (u:= .slice (some ⟨g1,0,none⟩) f1.vals.length f1.vals.length) rfl;have fl:=hF8.ltF.2;refine RZ.chunkN (f:=0) [0,1,2,3,4,5,6] (by kernel_rfl) ?_
   ((simp only[zo,List.filterMap,List.getElem?_toArray,List.getElem?_cons_zero,List.getElem?_cons_succ]);(repeat(go_big_quiet_step (fail)));refine wpQuiet_nil ?_)
   (refine RZ.tail (by kernel_rfl) ?_;(simp only[List.drop_succ_cons,List.drop_zero]))
   clear z0 z1 z2 zl f4 fl br8 e4;obtain⟨⟨w0,w1,w2⟩,vf,vl⟩:=hF8.valCells hdl
   go_upto_region 11 with fail
   obtain⟨a1,a2,a3⟩:=hF8.storeVal hO8 hdl v1 v2 v3 rfl;have bm9:=bm8.keptM a3 (by decide);have hK10:=hK9.trans (a3.wide (by simp));clear w0 w1 w2 vf vl hF8 hO8 hK9 bm8 a3;generalize World.setCell _ _ _=W9 at *
   have f1c:=a1.cell (j:=1) (u:= .int .i64 (f1.at_:Int)) rfl;have ff:=fun i=>a1.freeF i
   have fl:=a1.ltF.2
   go_wp2_with fail
   refine bodyPost_end (results_none rfl _ _ _) rfl ?_;clear f1c ff fl;obtain⟨k1,k2,k3⟩:=a1.storeAt a2 (f1.at_+1) (w':=W9.setCell ⟨gF,r.length*8+1,none⟩ (.int .i64 ((f1.at_+1:Nat):Int))) rfl;exact⟨rfl,bm9.keptM k3 (by decide),k1,k2,hK10.trans (k3.wide (by simp))⟩
end Go.Proofs.YtmhdambkchlilaaGreatDoor
