/- Chapter 15: top, record of package interp (for any unit). Chapter 15: frames end (package interp, for any unit). Chapter 15: the machine's objects in memory (package interp). Chapter 15: a variable of the latest frame is stored (memory of package interp). Chapter 15: assign of package interp, operation by operation (for any unit). -/
import Derived.Test.YtmhdambkchlilaaGreatDoorJMb
namespace Go.Proofs.YtmhdambkchlilaaGreatDoor
open Go.RowKit
set_option linter.unusedVariables false
set_option maxRecDepth 100000
set_option maxHeartbeats 4000000
theorem yT(w:World)(gm gF rl cF:Nat)(hm:gm<w.heap.size)(hrl:rl≤100000)(h6:w.cell? ⟨gm,6,none⟩=some (.slice (some ⟨gF,0,none⟩) (rl+1) cF)) :
  Calls Tryz.prog 87 #[.pointer (some ⟨gm,0,none⟩)] w fun e w'=>e = .returned (.pointer (some ⟨gF,rl*8,none⟩))∧Below w.heap.size w w':=by
 have e1:((rl+1:Nat):Int)-1=(rl:Int):=by omega
 have e2:(rl:Int)<((rl+1:Nat):Int):=by omega
 go_enter Tryz.func87,Tryz.ntmps87
 go_upto_region 1 with fail
 refine zt 12 (by kernel_rfl) (by kernel_rfl) ?_;refine RZ.chunkN (f:=0) [0,1,2,3,4,5,6,7,8,9,10,11] (by kernel_rfl) ?_
 ((simp only[zo,List.filterMap,List.getElem?_toArray,List.getElem?_cons_zero,List.getElem?_cons_succ]);(repeat(go_big_quiet_step (fail)));refine wpQuiet_nil ?_)
 (refine RZ.done (by kernel_rfl) (by kernel_rfl) ?_)
 go_wp2_with fail
 go_ret
 exact⟨rfl,(by repeat(first|assumption|exact v9r|apply zc|apply zd|apply zg|apply ze|apply zi))⟩
structure RecG(gm gF ro:Nat)(f:Frm)(g:Nat)(vO:Value)(w:World):Prop where
 o:w.cell? ⟨gm,8,none⟩=some vO
 f0:w.cell? ⟨gF,ro,none⟩=some (.int .i64 (f.fn:Int))
 f1:w.cell? ⟨gF,ro+1,none⟩=some (.int .i64 (f.at_:Int))
 f2:w.cell? ⟨gF,ro+2,none⟩=some (.int .i64 (f.no:Int))
 f3:w.cell? ⟨gF,ro+3,none⟩=some (.int .i64 f.call)
 f4:w.cell? ⟨gF,ro+4,none⟩=some (.slice (some ⟨g,0,none⟩) f.vals.length f.vals.length)
theorem RecG.of{w:World}{lo gm gF cF:Nat}{t:TypeId}{c0 c1 c2 c3 c4 c5 c6 c7 c9 vO:Value}{f:Frm}{g:Nat}{r:List Frm}{q:List Nat}(hm:Box w gm [c0,c1,c2,c3,c4,c5,c6,c7,vO,c9] t)(hF:zy w lo (.slice (some ⟨gF,0,none⟩) (r.length+1) cF) (f::r) (g::q)):RecG gm gF (r.length*8) f g vO w:=
 ⟨hm.cell 8 rfl,by have:=hF.cell (j:=0) (u:= .int .i64 (f.fn:Int)) rfl;rwa[Nat.add_zero] at this,hF.cell rfl,hF.cell rfl,hF.cell rfl,hF.cell rfl⟩
def ajD(w:World)(lo gm:Nat)(c0 c1 c2 c3 c4 c5 c6 c7 c9:Value)(frs:List Frm)(gs:List Nat)(obs:List Obv)(w':World):Prop:=∃vO:Value,Box w' gm [c0,c1,c2,c3,c4,c5,c6,c7,vO,c9] 101∧zy w' lo c6 frs gs∧zN w' lo vO obs gs∧KpM lo [101,54] w w'
theorem af3(w:World)(lo gm:Nat)(c0 c1 c2 c3 c4 c5 c7 c9 vO vF:Value)(f:Frm)(r:List Frm)(gs:List Nat)(obs:List Obv)
  (bm:Box w gm [c0,c1,c2,c3,c4,c5,vF,c7,vO,c9] 101) (hlo:lo≤w.heap.size) (hF:zy w lo vF (f::r) gs) (hO:zN w lo vO obs gs) (hr:r.length≤64) (ho:obs.length≤100000) (hv:f.vals.length≤256) (hgm:lo≤gm) :
  Calls Tryz.prog 45 #[.pointer (some ⟨gm,0,none⟩)] w fun e w'=>e = .returned (.tuple #[])∧ajD w lo gm c0 c1 c2 c3 c4 c5 vF c7 c9 (f::r) gs (obs++[obOf f]) w':=by
 obtain⟨gF,cF,rfl⟩:=hF.form;obtain⟨g,q,rfl,hq⟩:=hF.gsForm;have HT:=v9h (yT w gm gF r.length cF bm.lt (by omega) (bm.cell 6 rfl))
 go_enter Tryz.func45,Tryz.ntmps45
 go_wp2_with fail
 refine HT.out.mono ?_;rintro e w1 ⟨rfl,hb1⟩;have bm1:=bm.mono hb1;have hF1:=hF.mono hb1;have hO1:=hO.mono hb1;have hK1:KpM lo [101,54] w w1:=KpM.below hb1;have hlo1:lo≤w1.heap.size:=Nat.le_trans hlo hb1.size;clear HT hb1 bm hF hO hlo
 go_upto_region 1 with fail
 have bm2:=bm1.drew;have hF2:=hF1.mono (zd (v9r));have hO2:=hO1.mono (zd (v9r));have hK2:KpM lo [101,54] w w1.drew:=hK1.trans (KpM.below (zd (v9r)));have hlo2:lo≤w1.drew.heap.size:=hlo1;refine ji (S:=RecG gm gF (r.length*8) f g vO) 29 (by kernel_rfl) (RecG.of bm2 hF2) (by kernel_rfl) ?_;clear bm1 hF1 hO1 hK1 hlo1;generalize w1.drew=W at *
 have HSV:=v9h (jE (L:=Lay.vl) hF2.top rfl (fun _=>rfl)).2;have HC:=v9h (aeg (some ⟨g,0,none⟩) f.vals.length f.vals W (by omega) HSV.out);have hsome:Nonempty (Held (RecG gm gF (r.length*8) f g vO)):=⟨⟨W,RecG.of bm2 hF2⟩⟩
 refine RC.chunkN (f:=4) [0,1,2,3,4,5,6,7,8,9,10,11,12,13,14,15,16,17,18,19,20,21,22,23,24] (by kernel_rfl) ?_;have hq0:=fun(x:Held (RecG gm gF (r.length*8) f g vO))=>x.h.o
 have hq1:=fun(x:Held (RecG gm gF (r.length*8) f g vO))=>x.h.f0
 have hq2:=fun(x:Held (RecG gm gF (r.length*8) f g vO))=>x.h.f1
 have hq3:=fun(x:Held (RecG gm gF (r.length*8) f g vO))=>x.h.f2
 have hq4:=fun(x:Held (RecG gm gF (r.length*8) f g vO))=>x.h.f3
 have hq5:=fun(x:Held (RecG gm gF (r.length*8) f g vO))=>x.h.f4
 ((simp only[zo,List.filterMap,List.getElem?_toArray,List.getElem?_cons_zero,List.getElem?_cons_succ]);(repeat(go_big_quiet_step (fail)));refine wpQuiet_nil ?_)
 refine RC.single 25 rfl (by kernel_rfl) (by omega) ?_;intro K hK
 go_wp2_with fail
 refine HC.out.mono ?_;rintro e W2 ⟨⟨vk,rfl,hok⟩,hb2⟩;obtain⟨Ak,ck,rfl⟩:=hok.sliceOf
 have hnk:∀b,(Value.slice Ak f.vals.length ck).ownBlock=some b→b∉g::q:=fun b hb hm=>by
  have h1:=(World.ownsRow.lt hok b hb).1;have h2:=hF2.lts b hm
  omega
 have bm3:=bm2.mono hb2;have hF3:=hF2.mono hb2;have hO3:=hO2.mono hb2;have hK3:=hK2.trans (KpM.below hb2);have hok0:=Own.base0 hok hlo2;have hlo3:lo≤W2.heap.size:=Nat.le_trans hlo2 hb2.size
 go_wp2_with fail
 refine hK _ _ (RecG.of bm3 hF3) ?_;clear hK K bm2 hF2 hO2 hK2 HC HSV hb2 hok hlo2;refine RC.chunkN (f:=2) [26] (by kernel_rfl) ?_
 ((simp only[zo,List.filterMap,List.getElem?_toArray,List.getElem?_cons_zero,List.getElem?_cons_succ]);(repeat(go_big_quiet_step (fail)));refine wpQuiet_nil ?_)
 refine RC.single 27 rfl (by kernel_rfl) (by omega) ?_;clear hq0 hq1 hq2 hq3 hq4 hq5;intro K hK
 go_wp2_with fail
 have hb34:Below W2.heap.size W2 (W2.alloc (.cells #[.int .i64 (f.fn:Int),.int .i64 (f.at_:Int),.int .i64 (f.no:Int),.int .i64 f.call,.slice Ak f.vals.length ck] 54)):=zc (v9r);have bm4:=bm3.mono hb34;have hF4:=hF3.mono hb34;have hO4:=hO3.mono hb34;have hK4:=hK3.trans (KpM.below hb34);have hok4:=hok0.mono hb34;have hlo4:lo≤(W2.alloc (.cells #[.int .i64 (f.fn:Int),.int .i64 (f.at_:Int),.int .i64 (f.no:Int),.int .i64 f.call,.slice Ak f.vals.length ck] 54)).heap.size:=Nat.le_trans hlo3 hb34.size;have bn:Box (W2.alloc (.cells #[.int .i64 (f.fn:Int),.int .i64 (f.at_:Int),.int .i64 (f.no:Int),.int .i64 f.call,.slice Ak f.vals.length ck] 54)) W2.heap.size [.int .i64 (f.fn:Int),.int .i64 (f.at_:Int),.int .i64 (f.no:Int),.int .i64 f.call,.slice Ak f.vals.length ck] 54:=Box.new _ _ _;refine hK _ _ (RecG.of bm4 hF4) ?_;clear hK K bm3 hF3 hO3 hK3 hok0 hlo3 hb34;refine RC.single 28 rfl (by kernel_rfl) (by omega) ?_;intro K hK;generalize World.alloc _ _=W4 at *
 obtain⟨rs,hrs,hrl,hra⟩:=hO4.raws;refine zF aja abE rfl (.tmp 9) (.tmp 32) rfl lo _ _ rfl hrs ⟨f.fn,f.at_,f.no,f.call,Ak,f.vals.length,ck⟩ _ _ rfl (fun j u hj=>bn.cell j hj) (by unfold maxLen;omega) (by omega) hlo4 ?_;intro v5 w5 ho5 hc5 hg5;have hrw:=hrs.rowTyI;have bm5:=bm4.keptTyI hrw (by decide) hg5;have hF5:=hF4.keptTyI hrw (by decide) (by decide) hg5;have hok5:=hok4.keptTyI hrw (by decide) hg5;have hK5:=hK4.trans (KpM.row (ts:=[101,54]) hg5 hrw (by simp) (fun k e=>(World.ownsRow.lt hrs k e).1))
 have hO5:zN w5 lo v5 (obs++[obOf f]) (g::q):=zN.snoc ho5 hrl (fun i x y e1 e2=>by
  obtain⟨A,c,e,o1,o2⟩:=hra i x y e1 e2;exact⟨A,c,e,o1.keptTyI hrw (by decide) hg5,o2⟩) ⟨Ak,ck,rfl,hok5,hnk⟩
 obtain⟨A5,c5',rfl⟩:=ho5.sliceOf;rw[List.length_append,List.length_singleton,hrl] at ho5 hO5;clear hra hrs hrw bm4 hF4 hO4 hK4 hok4 bn hg5 hc5 hok5 hnk hlo4
 go_wp2_with fail
 refine hK _ _ (RecG.of bm5 hF5) ?_;clear hK K hsome;refine RC.tail (by kernel_rfl) ?_;simp only[List.drop_succ_cons,List.drop_zero];have q8:=bm5.cell 8 rfl;have qf:=fun i=>bm5.free i
 have ql:=bm5.lt
 go_wp2_with fail
 refine bodyPost_end (results_none rfl _ _ _) rfl ?_;have hg6:=zq w5 gm 8 (.slice A5 (obs.length+1) c5');exact⟨rfl,_,bm5.set 8 _,hF5.keptTyI bm5.rowTyI (by decide) (by decide) hg6,hO5.keptTyI bm5.rowTyI (by decide) (by decide) hg6,hK5.trans (KpM.row (ts:=[101,54]) hg6 bm5.rowTyI (by simp) (fun k e=>by injection e with e;omega))⟩
theorem Own.pop{α:Type}{cells:α→List Value}{size base:Nat}{e:TypeId}{w:World}{g cap:Nat}{l:List α}{x:α}(hc:yk cells size)(h:Own cells size base e w (.slice (some ⟨g,0,none⟩) (l.length+1) cap) (l++[x])):Own cells size base e w (.slice (some ⟨g,0,none⟩) l.length cap) l:=by
 obtain⟨h1,h2⟩:=h;rw[List.flatMap_append,List.length_append,List.length_append,List.length_singleton,List.flatMap_singleton,hc.len] at h1;have hl:(l.flatMap cells).length=l.length*size:=by rw[Nat.succ_mul] at h1;omega
 rcases h2 with⟨h3,_⟩|⟨g',cap',cur,hv,hb,hh,hnc,hcm,hcs,htk⟩
 ·cases h3
 ·injection hv with hv1 hv2 hv3
  injection hv1 with hv1
  injection hv1 with hv1 _ _
  subst hv1 hv3;rw[List.length_append,List.length_singleton] at hnc;refine⟨hl,Or.inr ⟨g,cap,cur,rfl,hb,hh,by omega,hcm,hcs,?_⟩⟩;have h4:=congrArg (List.take (l.length*size)) htk;rw[List.take_take,List.length_append,List.length_singleton,List.flatMap_append] at h4;rw[show min (l.length*size) ((l.length+1)*size)=l.length*size from Nat.min_eq_left (Nat.mul_le_mul_right size (by omega))] at h4;rw[h4,←hl,List.take_left']
  rfl
theorem zy.pop{w:World}{lo gF cF:Nat}{f:Frm}{r:List Frm}{g:Nat}{q:List Nat}(h:zy w lo (.slice (some ⟨gF,0,none⟩) (r.length+1) cF) (f::r) (g::q)):zy w lo (.slice (some ⟨gF,0,none⟩) r.length cF) r q:=by
 have hq:q.length=r.length:=by have:=h.len;simpa using this
 have hrow:=h.row;have hlr:(List.zipWith yS r q).reverse.length=r.length:=by rw[List.length_reverse,List.length_zipWith];omega
 simp only[List.zipWith_cons_cons,List.reverse_cons] at hrow;have hrow2:Own jb 8 lo 167 w (.slice (some ⟨gF,0,none⟩) ((List.zipWith yS r q).reverse.length+1) cF) ((List.zipWith yS r q).reverse++[yS f g]):=by rw[hlr];exact hrow
 have hp:=Own.pop qn hrow2;rw[hlr] at hp;exact⟨hq,hp,fun i x y e1 e2=>h.vals (i+1) x y e1 e2,(List.nodup_cons.1 h.nod).2⟩
def ah4(lo:Nat)(w:World)(gm gF cF:Nat)(c0 c1 c2 c3 c4 c5 c7 c8:Value)(w':World):Prop:=Box w' gm [c0,c1,c2,c3,c4,c5,.slice (some ⟨gF,0,none⟩) 0 cF,c7,c8,.int .i64 1] 101∧KpM lo [101] w w'
theorem agQ(w:World)(lo gm gF cF:Nat)(c0 c1 c2 c3 c4 c5 c7 c8 c9:Value)(f:Frm)(g:Nat)(x:Ins)(AI:Option Addr)(cI:Nat)
  (bm:Box w gm [c0,c1,c2,c3,c4,c5,.slice (some ⟨gF,0,none⟩) 1 cF,c7,c8,c9] 101) (hcF:1≤cF) (hgm:lo≤gm)
  (HR:Hid (x.a≠ -1→∀W,Below w.heap.size w W→∃v:Vl,Calls Tryz.prog 90 #[.pointer (some ⟨gm,0,none⟩),.pointer (some ⟨gF,0,none⟩),.int .i64 x.a] W fun e w'=>e = .returned (vlV v)∧Below W.heap.size W w')) :
  Calls Tryz.prog 92 #[.pointer (some ⟨gm,0,none⟩),.pointer (some ⟨gF,0,none⟩),.agg #[.int .i64 x.op,.int .i64 x.dst,.int .i64 x.a,.int .i64 x.b,.int .i64 x.n,.string x.cls,.string x.name,.slice AI x.args.length cI,.int .i64 x.jmp,.int .i64 x.hnd]] w fun e w'=>e = .returned (.tuple #[])∧ah4 lo w gm gF cF c0 c1 c2 c3 c4 c5 c7 c8 w':=by
 obtain⟨b,hb⟩:∃b,(x.a != -1)=b:=⟨_,rfl⟩
 go_enter Tryz.func92,Tryz.ntmps92
 go_upto_region 2 with fail
 generalize hW:World.alloc (World.alloc _ _) _=W1 at *
 have hb1:Below w.heap.size w W1:=by rw[←hW];exact(by repeat(first|assumption|exact v9r|apply zc|apply zd|apply zg|apply ze|apply zi))
 have bc:Box W1 w.heap.size [.int .i64 x.op,.int .i64 x.dst,.int .i64 x.a,.int .i64 x.b,.int .i64 x.n,.string x.cls,.string x.name,.slice AI x.args.length cI,.int .i64 x.jmp,.int .i64 x.hnd] 59:=by rw[←hW];exact(Box.new _ _ _).alloc _
 have br:Box W1 (w.heap.size+1) [.int .i64 0,.int .i64 0,.int .i64 0] 63:=by rw[←hW];exact Box.at (w:=w.alloc _) (by simp)
 clear hW;have bm1:=bm.mono hb1;have hK1:KpM lo [101] w W1:=KpM.below hb1;have y2:=bc.cell 2 rfl;have yl:=bc.lt;clear bm;have key:∀(W4:World),Box W4 gm [c0,c1,c2,c3,c4,c5,.slice (some ⟨gF,0,none⟩) 1 cF,c7,c8,c9] 101→KpM lo [101] w W4→True:=fun _ _ _=>trivial
 cases b with
 |false=>
  have HK1:=hK1
  go_upto_region 4 with fail
  clear y2 yl bc br HR hb;refine zt 12 (by kernel_rfl) (by kernel_rfl) ?_;have bm2:=bm1.drew;have hK2:KpM lo [101] w W1.drew:=hK1.trans (KpM.below (zd (v9r)));clear bm1 hK1 HK1;generalize W1.drew=W3 at *
  have q6:=bm2.cell 6 rfl;have qf:=fun i=>bm2.free i
  have ql:=bm2.lt;refine RZ.chunkN (f:=0) [0,1,2,3,4,5,6,7,8,9,10,11] (by kernel_rfl) ?_
  ((simp only[zo,List.filterMap,List.getElem?_toArray,List.getElem?_cons_zero,List.getElem?_cons_succ]);(repeat(go_big_quiet_step (fail)));refine wpQuiet_nil ?_)
  all_goals
   (refine RZ.tail (by kernel_rfl) ?_;(simp only[List.drop_succ_cons,List.drop_zero]))
   go_upto_region 5 with fail
   have hgs:=zq W3 gm 6 (.slice (some ⟨gF,0,none⟩) 0 cF);have bm4:=bm2.set 6 (.slice (some ⟨gF,0,none⟩) 0 cF);have hK4:=hK2.trans (KpM.row (ts:=[101]) hgs bm2.rowTyI (by simp) (fun k e=>by injection e with e;omega));clear q6 qf ql hgs bm2 hK2;generalize World.setCell _ _ _=W4 at *
   have q6:=bm4.cell 6 rfl;have q9:=bm4.cell 9 rfl;have qf:=fun i=>bm4.free i
   have ql:=bm4.lt
   go_wp2_with fail
   refine bodyPost_ret (results_none rfl _ _ _) rfl ?_;have hg5:=zq W4 gm 9 (.int .i64 1);exact⟨rfl,bm4.set 9 _,hK4.trans (KpM.row (ts:=[101]) hg5 bm4.rowTyI (by simp) (fun k e=>by injection e with e;omega))⟩
 |true=>
  have hne:x.a≠ -1:=by simpa[bne] using hb
  obtain⟨v,HC⟩:=HR.out hne W1 hb1;obtain⟨v1,v2,v3⟩:=v;rw[show vlV (v1,v2,v3) = .agg #[.int .i64 v1,.int .i64 v2,.int .i64 v3] from rfl] at HC;have HC:=v9h HC
  go_wp2_with fail
  refine HC.out.mono ?_;rintro e W2 ⟨rfl,hb2⟩;have bm2:=bm1.mono hb2;have br2:=br.mono hb2;have hK2:=hK1.trans (KpM.below hb2);have hbz:w.heap.size+1<W1.heap.size:=br.lt;clear y2 yl bc br HR hb hne HC key bm1;have z0:=br2.cell 0 rfl;have z1:=br2.cell 1 rfl;have z2:=br2.cell 2 rfl;have zf:=fun i=>br2.free i
  have zl:=br2.lt
  go_upto_region 4 with fail
  clear z0 z1 z2 zf zl;obtain⟨bz,hgz⟩:=br2.store3 (.int .i64 v1) (.int .i64 v2) (.int .i64 v3);have bm3:=bm2.keptTyI br2.rowTyI (by decide) hgz;have hK3:=hK2.new hgz (Nat.le_succ _);clear hgz bm2 hK2 br2 bz;generalize World.setCell _ _ _=W1' at *
  have bm1:=bm3;have hK1':=hK3;clear bm3 hK3;refine zt 12 (by kernel_rfl) (by kernel_rfl) ?_;have bm2:=bm1.drew;have hK2:KpM lo [101] w W1'.drew:=hK1'.trans (KpM.below (zd (v9r)));clear bm1 hK1';generalize W1'.drew=W3 at *
  have q6:=bm2.cell 6 rfl;have qf:=fun i=>bm2.free i
  have ql:=bm2.lt;refine RZ.chunkN (f:=0) [0,1,2,3,4,5,6,7,8,9,10,11] (by kernel_rfl) ?_
  ((simp only[zo,List.filterMap,List.getElem?_toArray,List.getElem?_cons_zero,List.getElem?_cons_succ]);(repeat(go_big_quiet_step (fail)));refine wpQuiet_nil ?_)
  all_goals
   (refine RZ.tail (by kernel_rfl) ?_;(simp only[List.drop_succ_cons,List.drop_zero]))
   go_upto_region 5 with fail
   have hgs:=zq W3 gm 6 (.slice (some ⟨gF,0,none⟩) 0 cF);have bm4:=bm2.set 6 (.slice (some ⟨gF,0,none⟩) 0 cF);have hK4:=hK2.trans (KpM.row (ts:=[101]) hgs bm2.rowTyI (by simp) (fun k e=>by injection e with e;omega));clear q6 qf ql hgs bm2 hK2;generalize World.setCell _ _ _=W4 at *
   have q6:=bm4.cell 6 rfl;have q9:=bm4.cell 9 rfl;have qf:=fun i=>bm4.free i
   have ql:=bm4.lt
   go_wp2_with fail
   refine bodyPost_ret (results_none rfl _ _ _) rfl ?_;have hg5:=zq W4 gm 9 (.int .i64 1);exact⟨rfl,bm4.set 9 _,hK4.trans (KpM.row (ts:=[101]) hg5 bm4.rowTyI (by simp) (fun k e=>by injection e with e;omega))⟩
structure KpC(w w':World):Prop where
 os:w'.os=w.os
 tape:w'.tape=w.tape
 output:w'.output=w.output
 size:w.heap.size≤w'.heap.size
 blk:∀(b:Nat) (cs:Array Value) (t:TypeId) (fr:Nat×Nat),w.heap[b]? = some (Obj.cells cs t fr)→w'.heap[b]? = some (Obj.cells cs t fr)
theorem KpC.below{w w':World}(h:Below w.heap.size w w'):KpC w w':=⟨h.os,h.tape,h.output,h.size,fun b _ _ _ e=>(h.block b (Array.getElem?_eq_some_iff.1 e).1).trans e⟩
theorem KpC.trans{a b c:World}(h:KpC a b)(k:KpC b c):KpC a c:=⟨k.os.trans h.os,k.tape.trans h.tape,k.output.trans h.output,Nat.le_trans h.size k.size,fun _ _ _ _ e=>k.blk _ _ _ _ (h.blk _ _ _ _ e)⟩
theorem KpC.map{w w':World}{b:Nat}(hg:w.grownBy w' (some b))(hn:∀(cs:Array Value) (t:TypeId) (fr:Nat×Nat),w.heap[b]?≠some (.cells cs t fr)):KpC w w':=
 ⟨hg.os,hg.tape,hg.output,hg.size,fun k cs t fr e=>(hg.block k (Array.getElem?_eq_some_iff.1 e).1 (fun hb=>by
  injection hb with hb
  subst hb;exact hn cs t fr e)).trans e⟩
theorem Own.keptC{α:Type}{cells:α→List Value}{size base:Nat}{e:TypeId}{w w':World}{v:Value}{l:List α}(h:Own cells size base e w v l)(hk:KpC w w'):Own cells size base e w' v l:=by
 refine⟨h.1,?_⟩
 rcases h.2 with h2|⟨g,cap,cur,hv,hb,hh,h3⟩
 ·exact Or.inl h2
 ·exact Or.inr ⟨g,cap,cur,hv,hb,hk.blk _ _ _ _ hh,h3⟩
theorem Box.keptC{w w':World}{b:Nat}{cs:List Value}{t:TypeId}(h:Box w b cs t)(hk:KpC w w'):Box w' b cs t:=hk.blk _ _ _ _ h
theorem zy.keptC{w w':World}{lo:Nat}{vF:Value}{frs:List Frm}{gs:List Nat}(h:zy w lo vF frs gs)(hk:KpC w w'):zy w' lo vF frs gs:=⟨h.len,h.row.keptC hk,fun i f g h1 h2=>(h.vals i f g h1 h2).keptC hk,h.nod⟩
theorem zN.keptC{w w':World}{lo:Nat}{vO:Value}{obs:List Obv}{gs:List Nat}(h:zN w lo vO obs gs)(hk:KpC w w'):zN w' lo vO obs gs:=by
 obtain⟨rs,k1,k2,k3⟩:=h.raws;refine⟨rs,k1.keptC hk,k2,fun i r o e1 e2=>?_⟩;obtain⟨A,c,e,o1,o2⟩:=k3 i r o e1 e2;exact⟨A,c,e,o1.keptC hk,o2⟩
structure yt(u:Unt)(w:World)(bo cnt:Nat)(objs:List Hob)(bs:List Nat):Prop where
 len:bs.length=objs.length
 map:∃fo:Int→Option (ByteArray×Option Nat),MapE kE w bo objs.length fo∧(∀(k:Nat) (o:Hob) (b:Nat),objs[k]? = some o→bs[k]? = some b→fo (k:Int)=some (o.cls,some b))∧∀k:Int,¬(0≤k∧k<objs.length)→fo k=none
 flds:∀(k:Nat) (o:Hob) (b:Nat),objs[k]? = some o→bs[k]? = some b→∃(n:Nat) (f:ByteArray→Option Vl),MapE qI w b n f∧n≤cnt∧∀nm,zG nm→(zz u.classes o.cls nm).2.2=true→o.val nm=(f nm).getD (iniV (zz u.classes o.cls nm).2.1)
 nod:(bo::bs).Nodup
theorem yt.keptM{u:Unt}{lo:Nat}{ts:List TypeId}{w w':World}{bo cnt:Nat}{objs:List Hob}{bs:List Nat}(h:yt u w bo cnt objs bs)(hk:KpM lo ts w w'):yt u w' bo cnt objs bs:=by
 obtain⟨fo,h1,h2,h3⟩:=h.map;refine⟨h.len,⟨fo,h1.keptM hk,h2,h3⟩,fun k o b e1 e2=>?_,h.nod⟩;obtain⟨n,f,g1,g2,g3⟩:=h.flds k o b e1 e2;exact⟨n,f,g1.keptM hk,g2,g3⟩
theorem yt.mono{u:Unt}{w w':World}{bo cnt:Nat}{objs:List Hob}{bs:List Nat}(h:yt u w bo cnt objs bs)(hb:Below w.heap.size w w'):yt u w' bo cnt objs bs:=h.keptM (lo:=0) (ts:=[]) (KpM.below hb)
theorem yt.more{u:Unt}{w:World}{bo cnt cnt':Nat}{objs:List Hob}{bs:List Nat}(h:yt u w bo cnt objs bs)(hc:cnt≤cnt'):yt u w bo cnt' objs bs:=
 ⟨h.len,h.map,fun k o b e1 e2=>by
  obtain⟨n,f,g1,g2,g3⟩:=h.flds k o b e1 e2;exact⟨n,f,g1,by omega,g3⟩,h.nod⟩
theorem yt.start(u:Unt)(w:World)(cnt:Nat):yt u (w.alloc (.map #[] 0)) w.heap.size cnt [] []:=
 ⟨rfl,⟨fun _=>none,MapE.made kE w,fun k o b e=>(by cases e),fun _ _=>rfl⟩,fun k o b e=>(by cases e),by simp⟩
theorem yt.look{u:Unt}{w:World}{bo cnt:Nat}{objs:List Hob}{bs:List Nat}(h:yt u w bo cnt objs bs){k:Nat}(hk:k<objs.length)(hi:qL (k:Int)):∃b,bs[k]? = some b∧(Instr.lookup 98 (.map (some bo)) (.int .i64 (k:Int)) false).run Tryz.prog w = .ok (.agg #[.string objs[k].cls,.map (some b)]) w:=by
 obtain⟨fo,h1,h2,_⟩:=h.map;have hb:k<bs.length:=by rw[h.len];exact hk
 refine⟨bs[k],List.getElem?_eq_getElem hb,?_⟩;have:=h1.look (x:=(k:Int)) hi;rw[h2 k objs[k] bs[k] (List.getElem?_eq_getElem hk) (List.getElem?_eq_getElem hb)] at this;exact this
theorem yt.store{u:Unt}{w w':World}{bo cnt:Nat}{objs:List Hob}{bs:List Nat}(h:yt u w bo cnt objs bs){k b n:Nat}{o:Hob}{f:ByteArray→Option Vl}{nm:ByteArray}{y:Vl}(ho:objs[k]? = some o)(hb:bs[k]? = some b)(hn:n≤cnt)
  (hv:∀q,zG q→(zz u.classes o.cls q).2.2=true→o.val q=(f q).getD (iniV (zz u.classes o.cls q).2.1)) {n':Nat} (hn':n'≤n+1) (hm:MapE qI w' b n' (putF f nm y)) (hg:w.grownBy w' (some b)) :
  yt u w' bo (cnt+1) (objs.set k ⟨o.cls,fun q=>if q=nm then y else o.val q⟩) bs:=by
 have hbb:b∈bs:=List.mem_of_getElem? hb;have hnd:=List.nodup_cons.1 h.nod;obtain⟨fo,h1,h2,h3⟩:=h.map;have hk:=(List.getElem?_eq_some_iff.1 ho).1;refine⟨by rw[List.length_set];exact h.len,⟨fo,by rw[List.length_set];exact h1.kept hg (fun e=>hnd.1 (by injection e with e;rw[e];exact hbb)),fun j x c e1 e2=>?_,by rw[List.length_set];exact h3⟩,fun j x c e1 e2=>?_,h.nod⟩
 ·rw[List.getElem?_set] at e1
  by_cases e:k=j
  ·subst e
   rw[if_pos rfl,if_pos hk] at e1;injection e1 with e1
   subst e1;exact h2 k o c ho e2
  ·rw[if_neg e] at e1
   exact h2 j x c e1 e2
 ·rw[List.getElem?_set] at e1
  by_cases e:k=j
  ·subst e
   rw[if_pos rfl,if_pos hk] at e1;injection e1 with e1
   subst e1;rw[hb] at e2;injection e2 with e2
   subst e2;refine⟨n',putF f nm y,hm,by omega,fun q hq hf=>?_⟩;show(if q=nm then y else o.val q)=(if q=nm then some y else f q).getD _
   by_cases eq:q=nm
   ·rw[if_pos eq,if_pos eq];rfl
   ·rw[if_neg eq,if_neg eq];exact hv q hq hf
  ·rw[if_neg e] at e1
   obtain⟨n2,f2,g1,g2,g3⟩:=h.flds j x c e1 e2;refine⟨n2,f2,g1.kept hg (fun eb=>?_),by omega,g3⟩;injection eb with eb
   subst eb;have h5:=hnd.2;have hj:=(List.getElem?_eq_some_iff.1 e2).1;have hkb:=(List.getElem?_eq_some_iff.1 hb).1
   have e3:bs[k]=bs[j]:=by
    have a1:=(List.getElem?_eq_some_iff.1 hb).2;have a2:=(List.getElem?_eq_some_iff.1 e2).2;rw[a1,a2]
   have hp:=List.pairwise_iff_getElem.1 h5
   rcases Nat.lt_or_gt_of_ne e with hlt|hlt
   ·exact hp k j hkb hj hlt e3
   ·exact hp j k hj hkb hlt e3.symm
theorem yt.new{u:Unt}{w w2:World}{bo cnt:Nat}{objs:List Hob}{bs:List Nat}(h:yt u w bo cnt objs bs){cl:ByteArray}{b:Nat}(hb:b=w.heap.size)
  {fo:Int→Option (ByteArray×Option Nat)} (h1:MapE kE w bo objs.length fo) (h2:∀(k:Nat) (o:Hob) (b:Nat),objs[k]? = some o→bs[k]? = some b→fo (k:Int)=some (o.cls,some b)) (h3:∀k:Int,¬(0≤k∧k<objs.length)→fo k=none)
  (hm:MapE kE w2 bo (objs.length+1) (putF fo (objs.length:Int) (cl,some b))) (hf:MapE qI w2 b 0 (fun _=>none)) (hk:∀c∈bs,∀n f,MapE qI w c n f→MapE qI w2 c n f) :
  yt u w2 bo cnt (objs++[qy u cl]) (bs++[b]):=by
 have hlt:∀c∈bs,c<w.heap.size:=fun c hc=>by
  obtain⟨i,hi,rfl⟩:=List.getElem_of_mem hc;have hi2:i<objs.length:=by rw[←h.len];exact hi
  obtain⟨n,f,g1,_⟩:=h.flds i _ _ (List.getElem?_eq_getElem hi2) (List.getElem?_eq_getElem hi);exact g1.lt
 have hbo:=h1.lt
 have hsplit:∀(j:Nat) (x:Hob) (c:Nat),(objs++[qy u cl])[j]? = some x→(bs++[b])[j]? = some c→(objs[j]? = some x∧bs[j]? = some c)∨(j=objs.length∧x=qy u cl∧c=b):=fun j x c e1 e2=>by
  by_cases hj:j<objs.length
  ·rw[List.getElem?_append_left hj] at e1
   rw[List.getElem?_append_left (by rw[h.len];exact hj)] at e2;exact Or.inl ⟨e1,e2⟩
  ·have hj2:=(List.getElem?_eq_some_iff.1 e1).1
   rw[List.length_append,List.length_singleton] at hj2;have hje:j=objs.length:=by omega
   subst hje;rw[List.getElem?_append_right (Nat.le_refl _),Nat.sub_self] at e1;rw[List.getElem?_append_right (by rw[h.len];exact Nat.le_refl _),h.len,Nat.sub_self] at e2;injection e1 with e1
   injection e2 with e2
   exact Or.inr ⟨rfl,e1.symm,e2.symm⟩
 refine⟨by rw[List.length_append,List.length_append,h.len];rfl,⟨putF fo (objs.length:Int) (cl,some b),by rw[List.length_append,List.length_singleton];exact hm,fun j x c e1 e2=>?_,fun j hj=>?_⟩,fun j x c e1 e2=>?_,?_⟩
 ·unfold putF
  rcases hsplit j x c e1 e2 with⟨a1,a2⟩|⟨a1,a2,a3⟩
  ·have hj:=(List.getElem?_eq_some_iff.1 a1).1
   rw[if_neg (by omega)];exact h2 j x c a1 a2
  ·rw[if_pos (by omega),a2,a3];rfl
 ·rw[List.length_append,List.length_singleton] at hj
  unfold putF;rw[if_neg (by omega)];exact h3 j (by omega)
 ·rcases hsplit j x c e1 e2 with⟨a1,a2⟩|⟨a1,a2,a3⟩
  ·obtain⟨n,f,g1,g2,g3⟩:=h.flds j x c a1 a2
   exact⟨n,f,hk c (List.mem_of_getElem? a2) n f g1,g2,g3⟩
  ·subst a2 a3
   exact⟨0,_,hf,Nat.zero_le _,fun nm _ _=>rfl⟩
 ·have hnd:=List.nodup_cons.1 h.nod
  rw[List.nodup_cons];refine⟨fun hmem=>?_,?_⟩
  ·rcases List.mem_append.1 hmem with h4|h4
   ·exact hnd.1 h4
   ·rw[List.mem_singleton.1 h4] at hbo;omega
  ·rw[List.nodup_append]
   exact⟨hnd.2,by simp,fun x hx y hy=>by
    rw[List.mem_singleton.1 hy];have:=hlt x hx
    omega⟩
theorem agR{lo g n d:Nat}{w:World}{vs:List Vl}(h:Own zI 3 lo 63 w (.slice (some ⟨g,0,none⟩) n n) vs)(hn:vs.length=n)(hd:d<n)(a b c:Int) :
  Own zI 3 lo 63 (((w.setCell ⟨g,d*3,none⟩ (.int .i64 a)).setCell ⟨g,d*3+1,none⟩ (.int .i64 b)).setCell ⟨g,d*3+2,none⟩ (.int .i64 c)) (.slice (some ⟨g,0,none⟩) n n) (vs.set d (a,b,c))∧w.grownBy (((w.setCell ⟨g,d*3,none⟩ (.int .i64 a)).setCell ⟨g,d*3+1,none⟩ (.int .i64 b)).setCell ⟨g,d*3+2,none⟩ (.int .i64 c)) (some g):=by
 have hd':d<vs.length:=by omega
 refine⟨?_,zJ (zJ (zq _ _ _ _) (zq _ _ _ _)) (zq _ _ _ _)⟩;have h0:=Own.setAt yc h hn hd' (j:=0) (by omega) (.int .i64 a) ((a,vs[d].2.1,vs[d].2.2):Vl) rfl;have h1:=Own.setAt yc h0 (by rw[List.length_set];exact hn) (i:=d) (by rw[List.length_set];exact hd') (j:=1) (by omega) (.int .i64 b) ((a,b,vs[d].2.2):Vl) (by rw[List.getElem_set_self];rfl);have h2:=Own.setAt yc h1 (by rw[List.length_set,List.length_set];exact hn) (i:=d) (by rw[List.length_set,List.length_set];exact hd') (j:=2) (by omega) (.int .i64 c) ((a,b,c):Vl) (by rw[List.getElem_set_self];rfl);rw[List.set_set,List.set_set] at h2;rw[Nat.add_zero] at h2;exact h2
theorem zy.storeVal{lo g d:Nat}{w:World}{vF vO:Value}{f:Frm}{r:List Frm}{q:List Nat}{obs:List Obv}(h:zy w lo vF (f::r) (g::q))(hO:zN w lo vO obs (g::q))(hd:d<f.vals.length)(a b c:Int){w':World}(hw:w'=((w.setCell ⟨g,d*3,none⟩ (.int .i64 a)).setCell ⟨g,d*3+1,none⟩ (.int .i64 b)).setCell ⟨g,d*3+2,none⟩ (.int .i64 c)) :
  zy w' lo vF ({ f with vals:=f.vals.set d (a,b,c)}::r) (g::q)∧zN w' lo vO obs (g::q)∧KpM lo [63] w w':=by
 subst hw;obtain⟨h1,h2⟩:=agR h.top rfl hd a b c;have hr:qs w (some g) 63:=by have:=h.top.rowTyI;exact this
 exact⟨h.setVals h2 (by rw[List.length_set]) h1,hO.keptVal (by simp) hr h2,KpM.row h2 hr (by simp) (fun k e=>by injection e with e;have:=h.top.ltOf.1;omega)⟩
theorem zy.valCells{lo g d:Nat}{w:World}{vF:Value}{f:Frm}{r:List Frm}{q:List Nat}(h:zy w lo vF (f::r) (g::q))(hd:d<f.vals.length):(w.cell? ⟨g,d*3,none⟩=some (.int .i64 f.vals[d].1)∧w.cell? ⟨g,d*3+1,none⟩=some (.int .i64 f.vals[d].2.1)∧w.cell? ⟨g,d*3+2,none⟩=some (.int .i64 f.vals[d].2.2))∧(∀i,w.frozen? ⟨g,i,none⟩=false)∧g<w.heap.size:=by
 have v0:=Own.cellOf yc h.top rfl hd (j:=0) (u:= .int .i64 f.vals[d].1) rfl;rw[Nat.add_zero] at v0;exact⟨⟨v0,Own.cellOf yc h.top rfl hd rfl,Own.cellOf yc h.top rfl hd rfl⟩,fun i=>Own.freeOf h.top rfl i,h.top.ltOf.2⟩
theorem zy.storeAt{lo gF cF g:Nat}{w:World}{vO:Value}{f:Frm}{r:List Frm}{q:List Nat}{obs:List Obv}(h:zy w lo (.slice (some ⟨gF,0,none⟩) (r.length+1) cF) (f::r) (g::q))(hO:zN w lo vO obs (g::q))(i:Nat){w':World}(hw:w'=w.setCell ⟨gF,r.length*8+1,none⟩ (.int .i64 (i:Int))) :
  zy w' lo (.slice (some ⟨gF,0,none⟩) (r.length+1) cF) ({ f with at_:=i}::r) (g::q)∧zN w' lo vO obs (g::q)∧KpM lo [167] w w':=by
 subst hw;have hg:=zq w gF (r.length*8+1) (.int .i64 (i:Int));have hr:=h.row.rowTyI;exact⟨h.setCell (j:=1) (by omega) (.int .i64 (i:Int)) (f':={ f with at_:=i}) rfl rfl,hO.keptTyI hr (by decide) (by decide) hg,KpM.row hg hr (by simp) (fun k e=>by injection e with e;have:=h.ltF.1;omega)⟩
def aaO(w:World)(lo:Nat)(vF vO:Value)(f:Frm)(r:List Frm)(g:Nat)(q:List Nat)(obs:List Obv)(d:Nat)(v:Vl)(w':World):Prop:=zy w' lo vF ({ f with vals:=f.vals.set d v}::r) (g::q)∧zN w' lo vO obs (g::q)∧KpM lo [63] w w'
theorem aav(a b c:Int)(W:World):(Instr.field 63 (.agg #[.int .i64 a,.int .i64 b,.int .i64 c]) 1).run Tryz.prog W = .ok (.int .i64 b) W:=by kernel_rfl
theorem aej(a b c:Int)(W:World):(Instr.field 63 (.agg #[.int .i64 a,.int .i64 b,.int .i64 c]) 0).run Tryz.prog W = .ok (.int .i64 a) W:=by kernel_rfl
theorem ahF(w:World)(lo gF cF g:Nat)(M vO:Value)(f:Frm)(r:List Frm)(q:List Nat)(obs:List Obv)(x:Ins)(AI:Option Addr)(cI d:Nat)(hop:x.op=1)(hxd:x.dst=(d:Int))(hd:d<f.vals.length)
  (hF:zy w lo (.slice (some ⟨gF,0,none⟩) (r.length+1) cF) (f::r) (g::q)) (hO:zN w lo vO obs (g::q)) :
  Calls Tryz.prog 96 #[M,.pointer (some ⟨gF,r.length*8,none⟩),.agg #[.int .i64 x.op,.int .i64 x.dst,.int .i64 x.a,.int .i64 x.b,.int .i64 x.n,.string x.cls,.string x.name,.slice AI x.args.length cI,.int .i64 x.jmp,.int .i64 x.hnd]] w fun e w'=>e = .returned (.tuple #[])∧aaO w lo (.slice (some ⟨gF,0,none⟩) (r.length+1) cF) vO f r g q obs d (1,x.n,0) w':=by
 have t1:(x.op==1)=true:=by rw[hop];rfl
 have hdI:(d:Int)<(f.vals.length:Int):=by omega
 rw[hxd];clear hop hxd
 go_enter Tryz.func96,Tryz.ntmps96
 go_upto_region 1 with fail
 generalize hW:World.alloc _ _=W1 at *
 have hb1:Below w.heap.size w W1:=by rw[←hW];exact(by repeat(first|assumption|exact v9r|apply zc|apply zd|apply zg|apply ze|apply zi))
 have bc:Box W1 w.heap.size [.int .i64 x.op,.int .i64 (d:Int),.int .i64 x.a,.int .i64 x.b,.int .i64 x.n,.string x.cls,.string x.name,.slice AI x.args.length cI,.int .i64 x.jmp,.int .i64 x.hnd] 59:=by rw[←hW];exact Box.new _ _ _
 clear hW;have y0:=bc.cell 0 rfl;have yl:=bc.lt
 go_upto_region 3 with fail
 refine zt 10 (by kernel_rfl) (by kernel_rfl) ?_;have hF3:=(hF.mono hb1).mono (zd (v9r));have hO3:=(hO.mono hb1).mono (zd (v9r));have hK3:KpM lo [63] w W1.drew:=KpM.below (hb1.drew);have bc3:=bc.drew;clear hF hO hb1 bc y0 yl;generalize W1.drew=W3 at *
 have y1:=bc3.cell 1 rfl;have y4:=bc3.cell 4 rfl;have yl:=bc3.lt;have f4:=hF3.cell (j:=4) (u:= .slice (some ⟨g,0,none⟩) f.vals.length f.vals.length) rfl;have fl:=hF3.ltF.2;have HN:=v9h (jm x.n W3);refine RZ.chunkN (f:=2) [0,1,2,3,4,5,6,7] (by kernel_rfl) ?_
 ((simp only[zo,List.filterMap,List.getElem?_toArray,List.getElem?_cons_zero,List.getElem?_cons_succ]);(repeat(go_big_quiet_step (fail)));refine wpQuiet_nil ?_)
 refine RZ.single 8 rfl (by kernel_rfl) (by omega) ?_;intro K hK
 go_wp2_with fail
 refine HN.out.mono ?_;rintro e W4 ⟨rfl,hb4⟩
 go_wp2_with fail
 refine hK _ _ hb4 ?_;have hF4:=hF3.mono hb4;have hO4:=hO3.mono hb4;have hK4:=hK3.trans (KpM.below hb4);clear hK K hF3 hO3 hK3 bc3 y1 y4 yl f4 fl HN hb4;refine RZ.chunkN (f:=0) [9] (by kernel_rfl) ?_
 ((simp only[zo,List.filterMap,List.getElem?_toArray,List.getElem?_cons_zero,List.getElem?_cons_succ]);(repeat(go_big_quiet_step (fail)));refine wpQuiet_nil ?_)
 (refine RZ.tail (by kernel_rfl) ?_;(simp only[List.drop_succ_cons,List.drop_zero]))
 obtain⟨⟨v0,v1,v2⟩,vf,vl⟩:=hF4.valCells hd
 go_wp2_with fail
 refine bodyPost_end (results_none rfl _ _ _) rfl ?_;obtain⟨a1,a2,a3⟩:=hF4.storeVal hO4 hd 1 x.n 0 rfl;exact⟨rfl,a1,a2,hK4.trans a3⟩
theorem ahG(w:World)(lo gF cF g:Nat)(M vO:Value)(f:Frm)(r:List Frm)(q:List Nat)(obs:List Obv)(x:Ins)(AI:Option Addr)(cI d:Nat)(hop:x.op=2)(hxd:x.dst=(d:Int))(hd:d<f.vals.length)
  (hF:zy w lo (.slice (some ⟨gF,0,none⟩) (r.length+1) cF) (f::r) (g::q)) (hO:zN w lo vO obs (g::q)) :
  Calls Tryz.prog 96 #[M,.pointer (some ⟨gF,r.length*8,none⟩),.agg #[.int .i64 x.op,.int .i64 x.dst,.int .i64 x.a,.int .i64 x.b,.int .i64 x.n,.string x.cls,.string x.name,.slice AI x.args.length cI,.int .i64 x.jmp,.int .i64 x.hnd]] w fun e w'=>e = .returned (.tuple #[])∧aaO w lo (.slice (some ⟨gF,0,none⟩) (r.length+1) cF) vO f r g q obs d (2,0,0) w':=by
 have t1:(x.op==1)=false:=by rw[hop];rfl
 have t2:(x.op==2)=true:=by rw[hop];rfl
 have hdI:(d:Int)<(f.vals.length:Int):=by omega
 rw[hxd];clear hop hxd
 go_enter Tryz.func96,Tryz.ntmps96
 go_upto_region 1 with fail
 generalize hW:World.alloc _ _=W1 at *
 have hb1:Below w.heap.size w W1:=by rw[←hW];exact(by repeat(first|assumption|exact v9r|apply zc|apply zd|apply zg|apply ze|apply zi))
 have bc:Box W1 w.heap.size [.int .i64 x.op,.int .i64 (d:Int),.int .i64 x.a,.int .i64 x.b,.int .i64 x.n,.string x.cls,.string x.name,.slice AI x.args.length cI,.int .i64 x.jmp,.int .i64 x.hnd] 59:=by rw[←hW];exact Box.new _ _ _
 clear hW;have y0:=bc.cell 0 rfl;have yl:=bc.lt
 go_upto_region 5 with fail
 refine zt 8 (by kernel_rfl) (by kernel_rfl) ?_;have hF3:=(hF.mono hb1).mono (zd (v9r));have hO3:=(hO.mono hb1).mono (zd (v9r));have hK3:KpM lo [63] w W1.drew:=KpM.below (hb1.drew);have bc3:=bc.drew;clear hF hO hb1 bc y0 yl;generalize W1.drew=W3 at *
 have y1:=bc3.cell 1 rfl;have y4:=bc3.cell 4 rfl;have yl:=bc3.lt;have f4:=hF3.cell (j:=4) (u:= .slice (some ⟨g,0,none⟩) f.vals.length f.vals.length) rfl;have fl:=hF3.ltF.2;refine RZ.chunkN (f:=0) [0,1,2,3,4,5,6,7] (by kernel_rfl) ?_
 ((simp only[zo,List.filterMap,List.getElem?_toArray,List.getElem?_cons_zero,List.getElem?_cons_succ]);(repeat(go_big_quiet_step (fail)));refine wpQuiet_nil ?_)
 have hF4:=hF3;have hO4:=hO3;have hK4:=hK3;clear hF3 hO3 hK3 bc3 y1 y4 yl f4 fl
 (refine RZ.tail (by kernel_rfl) ?_;(simp only[List.drop_succ_cons,List.drop_zero]))
 obtain⟨⟨v0,v1,v2⟩,vf,vl⟩:=hF4.valCells hd
 go_wp2_with fail
 refine bodyPost_end (results_none rfl _ _ _) rfl ?_;obtain⟨a1,a2,a3⟩:=hF4.storeVal hO4 hd 2 0 0 rfl;exact⟨rfl,a1,a2,hK4.trans a3⟩
theorem ahH(w:World)(lo gF cF g:Nat)(M vO:Value)(f:Frm)(r:List Frm)(q:List Nat)(obs:List Obv)(x:Ins)(AI:Option Addr)(cI d:Nat)(hop:x.op=3)(v:Vl)(HR:Hid (∀W,Below w.heap.size w W→Calls Tryz.prog 90 #[M,.pointer (some ⟨gF,r.length*8,none⟩),.int .i64 x.a] W fun e w'=>e = .returned (vlV v)∧Below W.heap.size W w'))(hxd:x.dst=(d:Int))(hd:d<f.vals.length)
  (hF:zy w lo (.slice (some ⟨gF,0,none⟩) (r.length+1) cF) (f::r) (g::q)) (hO:zN w lo vO obs (g::q)) :
  Calls Tryz.prog 96 #[M,.pointer (some ⟨gF,r.length*8,none⟩),.agg #[.int .i64 x.op,.int .i64 x.dst,.int .i64 x.a,.int .i64 x.b,.int .i64 x.n,.string x.cls,.string x.name,.slice AI x.args.length cI,.int .i64 x.jmp,.int .i64 x.hnd]] w fun e w'=>e = .returned (.tuple #[])∧aaO w lo (.slice (some ⟨gF,0,none⟩) (r.length+1) cF) vO f r g q obs d v w':=by
 have t1:(x.op==1)=false:=by rw[hop];rfl
 have t2:(x.op==2)=false:=by rw[hop];rfl
 have t3:(x.op==3)=true:=by rw[hop];rfl
 obtain⟨v1,v2,v3⟩:=v;rw[show vlV (v1,v2,v3) = .agg #[.int .i64 v1,.int .i64 v2,.int .i64 v3] from rfl] at HR;have hdI:(d:Int)<(f.vals.length:Int):=by omega
 rw[hxd];clear hop hxd
 go_enter Tryz.func96,Tryz.ntmps96
 go_upto_region 1 with fail
 generalize hW:World.alloc _ _=W1 at *
 have hb1:Below w.heap.size w W1:=by rw[←hW];exact(by repeat(first|assumption|exact v9r|apply zc|apply zd|apply zg|apply ze|apply zi))
 have bc:Box W1 w.heap.size [.int .i64 x.op,.int .i64 (d:Int),.int .i64 x.a,.int .i64 x.b,.int .i64 x.n,.string x.cls,.string x.name,.slice AI x.args.length cI,.int .i64 x.jmp,.int .i64 x.hnd] 59:=by rw[←hW];exact Box.new _ _ _
 clear hW;have y0:=bc.cell 0 rfl;have yl:=bc.lt
 go_upto_region 7 with fail
 refine zt 12 (by kernel_rfl) (by kernel_rfl) ?_;have hF3:=(hF.mono hb1).mono (zd (v9r));have hO3:=(hO.mono hb1).mono (zd (v9r));have hK3:KpM lo [63] w W1.drew:=KpM.below (hb1.drew);have bc3:=bc.drew;have HN:=v9h (HR.out _ hb1.drew);clear hF hO hb1 bc y0 yl HR;generalize W1.drew=W3 at *
 have y1:=bc3.cell 1 rfl;have y4:=bc3.cell 2 rfl;have yl:=bc3.lt;have f4:=hF3.cell (j:=4) (u:= .slice (some ⟨g,0,none⟩) f.vals.length f.vals.length) rfl;have fl:=hF3.ltF.2;refine RZ.chunkN (f:=2) [0,1,2,3,4,5,6,7,8,9] (by kernel_rfl) ?_
 ((simp only[zo,List.filterMap,List.getElem?_toArray,List.getElem?_cons_zero,List.getElem?_cons_succ]);(repeat(go_big_quiet_step (fail)));refine wpQuiet_nil ?_)
 refine RZ.single 10 rfl (by kernel_rfl) (by omega) ?_;intro K hK
 go_wp2_with fail
 refine HN.out.mono ?_;rintro e W4 ⟨rfl,hb4⟩
 go_wp2_with fail
 refine hK _ _ hb4 ?_;have hF4:=hF3.mono hb4;have hO4:=hO3.mono hb4;have hK4:=hK3.trans (KpM.below hb4);clear hK K hF3 hO3 hK3 bc3 y1 y4 yl f4 fl HN hb4;refine RZ.chunkN (f:=0) [11] (by kernel_rfl) ?_
 ((simp only[zo,List.filterMap,List.getElem?_toArray,List.getElem?_cons_zero,List.getElem?_cons_succ]);(repeat(go_big_quiet_step (fail)));refine wpQuiet_nil ?_)
 (refine RZ.tail (by kernel_rfl) ?_;(simp only[List.drop_succ_cons,List.drop_zero]))
 obtain⟨⟨w0,w1,w2⟩,vf,vl⟩:=hF4.valCells hd
 go_wp2_with fail
 refine bodyPost_end (results_none rfl _ _ _) rfl ?_;obtain⟨a1,a2,a3⟩:=hF4.storeVal hO4 hd v1 v2 v3 rfl;exact⟨rfl,a1,a2,hK4.trans a3⟩
theorem agS(w:World)(lo gF cF g:Nat)(M vO:Value)(f:Frm)(r:List Frm)(q:List Nat)(obs:List Obv)(x:Ins)(AI:Option Addr)(cI d:Nat)(hop:x.op=16)(v:Vl)(HR:Hid (∀W,Below w.heap.size w W→Calls Tryz.prog 90 #[M,.pointer (some ⟨gF,r.length*8,none⟩),.int .i64 x.a] W fun e w'=>e = .returned (vlV v)∧Below W.heap.size W w'))(hxd:x.dst=(d:Int))(hd:d<f.vals.length)
  (hF:zy w lo (.slice (some ⟨gF,0,none⟩) (r.length+1) cF) (f::r) (g::q)) (hO:zN w lo vO obs (g::q)) :
  Calls Tryz.prog 96 #[M,.pointer (some ⟨gF,r.length*8,none⟩),.agg #[.int .i64 x.op,.int .i64 x.dst,.int .i64 x.a,.int .i64 x.b,.int .i64 x.n,.string x.cls,.string x.name,.slice AI x.args.length cI,.int .i64 x.jmp,.int .i64 x.hnd]] w fun e w'=>e = .returned (.tuple #[])∧aaO w lo (.slice (some ⟨gF,0,none⟩) (r.length+1) cF) vO f r g q obs d (1,wrap64 (v.2.1+x.n),0) w':=by
 have t1:(x.op==1)=false:=by rw[hop];rfl
 have t2:(x.op==2)=false:=by rw[hop];rfl
 have t3:(x.op==3)=false:=by rw[hop];rfl
 have t4:(x.op==16)=true:=by rw[hop];rfl
 obtain⟨v1,v2,v3⟩:=v;rw[show vlV (v1,v2,v3) = .agg #[.int .i64 v1,.int .i64 v2,.int .i64 v3] from rfl] at HR;have hdI:(d:Int)<(f.vals.length:Int):=by omega
 rw[hxd];clear hop hxd
 go_enter Tryz.func96,Tryz.ntmps96
 go_upto_region 1 with fail
 generalize hW:World.alloc _ _=W1 at *
 have hb1:Below w.heap.size w W1:=by rw[←hW];exact(by repeat(first|assumption|exact v9r|apply zc|apply zd|apply zg|apply ze|apply zi))
 have bc:Box W1 w.heap.size [.int .i64 x.op,.int .i64 (d:Int),.int .i64 x.a,.int .i64 x.b,.int .i64 x.n,.string x.cls,.string x.name,.slice AI x.args.length cI,.int .i64 x.jmp,.int .i64 x.hnd] 59:=by rw[←hW];exact Box.new _ _ _
 clear hW;have y0:=bc.cell 0 rfl;have yl:=bc.lt
 go_upto_region 9 with fail
 refine zt 17 (by kernel_rfl) (by kernel_rfl) ?_;have hF3:=(hF.mono hb1).mono (zd (v9r));have hO3:=(hO.mono hb1).mono (zd (v9r));have hK3:KpM lo [63] w W1.drew:=KpM.below (hb1.drew);have bc3:=bc.drew;have HN:=v9h (HR.out _ hb1.drew);clear hF hO hb1 bc y0 yl HR;generalize W1.drew=W3 at *
 have y1:=bc3.cell 1 rfl;have y4:=bc3.cell 2 rfl;have y5:=bc3.cell 4 rfl;have yl:=bc3.lt;have f4:=hF3.cell (j:=4) (u:= .slice (some ⟨g,0,none⟩) f.vals.length f.vals.length) rfl;have fl:=hF3.ltF.2;refine RZ.chunkN (f:=5) [0,1,2,3,4,5,6,7,8,9,12,13] (by kernel_rfl) ?_
 ((simp only[zo,List.filterMap,List.getElem?_toArray,List.getElem?_cons_zero,List.getElem?_cons_succ]);(repeat(go_big_quiet_step (fail)));refine wpQuiet_nil ?_)
 refine RZ.single 10 rfl (by kernel_rfl) (by omega) ?_;intro K hK
 go_wp2_with fail
 refine HN.out.mono ?_;rintro e W4 ⟨rfl,hb4⟩
 go_wp2_with fail
 refine hK _ _ hb4 ?_;have hF4:=hF3.mono hb4;have hO4:=hO3.mono hb4;have hK4:=hK3.trans (KpM.below hb4);have hfd:=fun W=>aav v1 v2 v3 W
 have HM:=v9h (jm (wrap64 (v2+x.n)) W4);clear hK hF3 hO3 hK3 bc3 y1 y4 y5 yl f4 fl HN;refine RZ.chunkN (f:=2) [11,14] (by kernel_rfl) ?_
 ((simp only[zo,List.filterMap,List.getElem?_toArray,List.getElem?_cons_zero,List.getElem?_cons_succ]);(repeat(go_big_quiet_step (fail)));refine wpQuiet_nil ?_)
 refine RZ.single 15 rfl (by kernel_rfl) (by omega) ?_;clear K;intro K hK
 go_wp2_with fail
 refine HM.out.mono ?_;rintro e W5 ⟨rfl,hb5⟩
 go_wp2_with fail
 refine hK _ _ (za hb4 hb5) ?_;have hF4:=hF4.mono hb5;have hO4:=hO4.mono hb5;have hK4:=hK4.trans (KpM.below hb5);clear hK K HM hb4 hb5;refine RZ.chunkN (f:=0) [16] (by kernel_rfl) ?_
 ((simp only[zo,List.filterMap,List.getElem?_toArray,List.getElem?_cons_zero,List.getElem?_cons_succ]);(repeat(go_big_quiet_step (fail)));refine wpQuiet_nil ?_)
 (refine RZ.tail (by kernel_rfl) ?_;(simp only[List.drop_succ_cons,List.drop_zero]))
 obtain⟨⟨w0,w1,w2⟩,vf,vl⟩:=hF4.valCells hd
 go_wp2_with fail
 refine bodyPost_end (results_none rfl _ _ _) rfl ?_;obtain⟨a1,a2,a3⟩:=hF4.storeVal hO4 hd 1 (wrap64 (v2+x.n)) 0 rfl;exact⟨rfl,a1,a2,hK4.trans a3⟩
end Go.Proofs.YtmhdambkchlilaaGreatDoor
