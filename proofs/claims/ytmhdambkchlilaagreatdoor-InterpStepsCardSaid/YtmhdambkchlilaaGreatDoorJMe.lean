/- Chapter 15: raise of package interp: frames end until one handles the exception (for any unit). Chapter 15: call of package interp: the frame of a callee is made (for any unit). Chapter 15: access of package interp: a field is read or stored (for any unit). -/
import Derived.Test.YtmhdambkchlilaaGreatDoorJMd
namespace Go.Proofs.YtmhdambkchlilaaGreatDoor
open Go.RowKit
set_option linter.unusedVariables false
set_option maxRecDepth 100000
set_option maxHeartbeats 8000000
section
variable {u:Unt} {w0 w w':World} {gm gF n cFr:Nat} {AC AF:Option Addr} {cC cF:Nat} {vI vF vO:Value} {b4 b5 k:Nat} {m:Mch} {gs bs:List Nat} {f:Frm} {r:List Frm}
theorem MSt.pop(H:MSt u w0 w gm AC AF cC cF vI (.slice (some ⟨gF,0,none⟩) (r.length+1) cFr) vO b4 b5 k m gs bs)(hf:m.frs=f::r):MSt u w0 (w.setCell ⟨gm,6,none⟩ (.slice (some ⟨gF,0,none⟩) r.length cFr)) gm AC AF cC cF vI (.slice (some ⟨gF,0,none⟩) r.length cFr) vO b4 b5 k { m with frs:=r} gs.tail bs:=by
 obtain⟨g,q,rfl,hfr⟩:=H.frm hf;have hg:=zq w gm 6 (.slice (some ⟨gF,0,none⟩) r.length cFr);exact H.turn (ts:=[101]) (KpM.row hg H.bm.rowTyI (by simp) (fun k e=>by injection e with e;have:=H.hB;omega)) (Nat.le_refl _) (H.bm.set 6 _) (hfr.keptTyI H.bm.rowTyI (by decide) (by decide) hg).pop ((H.ob.keptTyI H.bm.rowTyI (by decide) (by decide) hg).blocks (fun b hb=>Or.inl (by simp[show b∈q from hb]))) rfl rfl H.md
theorem MSt.exc(H:MSt u w0 w gm AC AF cC cF vI (.slice (some ⟨gF,0,none⟩) (r.length+1) cFr) vO b4 b5 k m gs bs)(hf:m.frs=f::r)(a b c:Int):MSt u w0 (((w.setCell ⟨gF,r.length*8+5,none⟩ (.int .i64 a)).setCell ⟨gF,r.length*8+6,none⟩ (.int .i64 b)).setCell ⟨gF,r.length*8+7,none⟩ (.int .i64 c)) gm AC AF cC cF vI (.slice (some ⟨gF,0,none⟩) (r.length+1) cFr) vO b4 b5 k { m with frs:={ f with exc:=(a,b,c)}::r} gs bs:=by
 obtain⟨g,q,rfl,hfr⟩:=H.frm hf;have h1:=hfr.setCell (j:=5) (by omega) (.int .i64 a) (f':={ f with exc:=(a,f.exc.2.1,f.exc.2.2)}) rfl rfl;have h2:=h1.setCell (j:=6) (by omega) (.int .i64 b) (f':={ f with exc:=(a,b,f.exc.2.2)}) rfl rfl;have h3:=h2.setCell (j:=7) (by omega) (.int .i64 c) (f':={ f with exc:=(a,b,c)}) rfl rfl;have hg:=zJ (zJ (zq w gF (r.length*8+5) (.int .i64 a)) (zq _ gF (r.length*8+6) (.int .i64 b))) (zq _ gF (r.length*8+7) (.int .i64 c));have hr:=hfr.row.rowTyI;have hK:KpM w0.heap.size [167] w _:=KpM.row hg hr (by simp) (fun k e=>by injection e with e;have:=hfr.ltF.1;omega);exact H.turn hK (Nat.le_refl _) (H.bm.keptM hK (by decide)) h3 (H.ob.keptTyI hr (by decide) (by decide) hg) rfl rfl H.md
end
def abP(gm:Nat)(w:World):Nat:=match w.cell? ⟨gm,6,none⟩ with
 |some (.slice _ n _)=>n
 |_=>0
theorem agT(u:Unt)(w0 w:World)(gm:Nat)(AC AF:Option Addr)(cC cF:Nat)(vI vF vO:Value)(b4 b5 k:Nat)(m:Mch)(gs bs:List Nat)(H:MSt u w0 w gm AC AF cC cF vI vF vO b4 b5 k m gs bs)(e1 e2 e3:Int)
  (hT:∀g∈m.frs,g.fn<u.funcs.length∧g.at_<(zb u g.fn).code.length∧((zh (zb u g.fn) g.at_).hnd≠ -1→0≤(zh (zb u g.fn) g.at_).hnd)) (hcnt:m.frs.length≤64) :
  Calls Tryz.prog 93 #[.pointer (some ⟨gm,0,none⟩),.agg #[.int .i64 e1,.int .i64 e2,.int .i64 e3]] w fun e w'=>e = .returned (.tuple #[])∧MNx u w0 gm AC AF cC cF b4 b5 k (qH u m (e1,e2,e3)) w':=by
 obtain⟨R,hR⟩:∃R,Hid (R=yI u (e1,e2,e3) m.frs):=⟨_,v9h rfl⟩
 have HM:Hid (qH u m (e1,e2,e3)={ m with frs:=R,en:=if R.isEmpty then 2 else m.en}):=by
  show _=_;rw[hR.out]
  rfl
 go_enter Tryz.func93,Tryz.ntmps93
 go_upto_region 1 with fail
 generalize hW:World.alloc _ _=W1 at *
 have hb1:Below w.heap.size w W1:=by rw[←hW];exact(by repeat(first|assumption|exact v9r|apply zc|apply zd|apply zg|apply ze|apply zi))
 have bx:Box W1 w.heap.size [.int .i64 e1,.int .i64 e2,.int .i64 e3] 63:=by rw[←hW];exact Box.new _ _ _
 clear hW;have H1:=H.mono hb1;clear H hb1
 go_loopw [4] (fun v wr=>Box wr w.heap.size [.int .i64 e1,.int .i64 e2,.int .i64 e3] 63∧∃(l:List Frm) (vF':Value) (gs':List Nat),MSt u w0 wr gm AC AF cC cF vI vF' vO b4 b5 k { m with frs:=l} gs' bs∧Hid (R=yI u (e1,e2,e3) l)∧(∀g∈l,g∈m.frs)∧l.length≤64) (fun _ wr=>abP gm wr)
 case atStart=>exact⟨bx,m.frs,vF,gs,H1,hR,fun g h=>h,hcnt⟩
 case round=>
  obtain⟨hbx,l,vF',gs',HL,hRl,hsub,hll⟩:=hrel;clear H1 hR bx
  cases l with
  |nil=>
   obtain⟨A,c,rfl⟩:=HL.fr.row.sliceOf
   have HL:MSt u w0 wr gm AC AF cC cF vI (.slice A 0 c) vO b4 b5 k { m with frs:=[]} gs' bs:=by
    have h0:(List.zipWith yS ([]:List Frm) gs').reverse.length=0:=by simp
    rw[h0] at HL;exact HL
   have q6:=HL.bm.cell 6 rfl;have q9:=HL.bm.cell 9 rfl;have qf:=fun i=>HL.bm.free i
   have ql:=HL.bm.lt
   go_wp2_with fail
   refine bodyPost_end (results_none rfl _ _ _) rfl ?_;refine⟨rfl,?_⟩;rw[HM.out,hRl.out];exact⟨_,_,_,_,_,HL.setEn 2⟩
  |cons f r=>
   obtain⟨gF,cFr,rfl⟩:=HL.form (f:=f) (r:=r) rfl;obtain⟨hfn,hat,hhn⟩:=hT f (hsub f (by simp));have hrl:r.length≤64:=by rw[List.length_cons] at hll;omega
   have hlen:(0:Int)<((r.length+1:Nat):Int):=by omega
   have HT:=v9h (yT wr gm gF r.length cFr HL.bm.lt (by omega) (HL.bm.cell 6 rfl));have q6:=HL.bm.cell 6 rfl;have ql:=HL.bm.lt;have hln:abP gm wr=r.length+1:=by unfold abP;rw[q6]
   go_wp2_with fail
   refine HT.out.mono ?_;rintro e W2 ⟨rfl,hb2⟩;have H2:=HL.mono hb2;have bx2:=hbx.mono hb2;clear HT q6 ql HL hbx hb2;obtain⟨g,q,rfl,hfr⟩:=H2.frm (f:=f) (r:=r) rfl;have hat':f.at_<u.funcs[f.fn].code.length:=by rw[←zv hfn];exact hat
   have HI:=v9h (yZ u.funcs AF cF W2 gm gF (r.length*8) f.fn f.at_ hfn hat' H2.funs H2.bm.lt hfr.ltF.2 (H2.bm.cell 1 rfl) (by have:=hfr.cell (j:=0) (u:= .int .i64 (f.fn:Int)) rfl;rwa[Nat.add_zero] at this) (hfr.cell (j:=1) rfl))
   have hyx:u.funcs[f.fn].code[f.at_]=zh (zb u f.fn) f.at_:=by
    rw[zQ hat]
    congr 1
    rw[zv hfn]
   rw[hyx] at HI;clear hyx hat';obtain⟨y,hy⟩:∃y,y=zh (zb u f.fn) f.at_:=⟨_,rfl⟩
   rw[←hy] at HI hhn;replace hy:=v9h hy
   go_wp2_with fail
   refine HI.out.mono ?_;rintro e W3 ⟨hRI,hb3⟩;obtain⟨AI2,cI2,rfl,-,-⟩:=hRI;have H3:=H2.mono hb3;have bx3:=bx2.mono hb3;clear HI H2 bx2 hb3 hfr
   go_upto_region 4 with fail
   generalize hW:World.alloc _ _=W4 at *
   have hb34:Below W3.heap.size W3 W4:=by rw[←hW];exact(by repeat(first|assumption|exact v9r|apply zc|apply zd|apply zg|apply ze|apply zi))
   have by_:Box W4 W3.heap.size [.int .i64 y.op,.int .i64 y.dst,.int .i64 y.a,.int .i64 y.b,.int .i64 y.n,.string y.cls,.string y.name,.slice AI2 y.args.length cI2,.int .i64 y.jmp,.int .i64 y.hnd] 59:=by rw[←hW];exact Box.new _ _ _
   clear hW;have H4:=H3.mono hb34;have bx4:=bx3.mono hb34;clear H3 bx3 hb34;have y9:=by_.cell 9 rfl;have yl:=by_.lt;obtain⟨g,q,hgs,hfr⟩:=H4.frm (f:=f) (r:=r) rfl
   by_cases hh:y.hnd = -1
   ·have hh':(y.hnd != -1)=false:=by simp[hh]
    have hraise:Hid (R=yI u (e1,e2,e3) r):=by
     show R=_;rw[hRl.out,yI,←hy.out,if_pos hh]
    go_upto_region 7 with fail
    have e4:((r.length+1:Nat):Int)-1=(r.length:Int):=by omega
    have hcap:r.length+1≤cFr:=Own.capLe hfr.row (by rw[je hfr];rfl);have e5:(r.length:Int)≤(cFr:Int):=by omega
    refine zt 12 (by kernel_rfl) (by kernel_rfl) ?_;have H5:=H4.mono (zd (v9r));have bx5:=bx4.drew;clear H4 bx4 y9 yl by_ hfr;generalize W4.drew=W5 at *
    have q6:=H5.bm.cell 6 rfl;have ql:=H5.bm.lt;refine RZ.chunkN (f:=0) [0,1,2,3,4,5,6,7,8,9,10,11] (by kernel_rfl) ?_
    ((simp only[zo,List.filterMap,List.getElem?_toArray,List.getElem?_cons_zero,List.getElem?_cons_succ]);(repeat(go_big_quiet_step (fail)));refine wpQuiet_nil ?_)
    (refine RZ.tail (by kernel_rfl) ?_;(simp only[List.drop_succ_cons,List.drop_zero]))
    have qf:=fun i=>H5.bm.free i
    go_wp2_with fail
    have hg:=zq W5 gm 6 (.slice (some ⟨gF,0,none⟩) r.length cFr);refine⟨⟨bx5.keptTyI H5.bm.rowTyI (by decide) hg,r,_,_,H5.pop (f:=f) rfl,hraise,fun g h=>hsub g (by simp[h]),by omega⟩,?_⟩;rw[hln];have h6:=(H5.pop (f:=f) (r:=r) rfl).bm.cell 6 rfl;show abP gm _<_;unfold abP;rw[h6];show r.length<r.length+1
    omega
   ·have hh':(y.hnd != -1)=true:=by rw[bne_iff_ne];exact hh
    obtain⟨hn,hhe⟩:∃n:Nat,y.hnd=(n:Int):=⟨y.hnd.toNat,by have:=hhn hh;omega⟩
    have hraise:Hid (R={ f with at_:=hn,exc:=(e1,e2,e3)}::r):=by
     show R=_;rw[hRl.out,yI,←hy.out,if_neg hh];unfold Frm.go;rw[hhe]
     rfl
    rw[hhe] at y9;have f1:=hfr.cell (j:=1) (u:= .int .i64 (f.at_:Int)) rfl;have ff:=fun i=>hfr.freeF i
    have fl:=hfr.ltF.2;have e6:((hn:Int) != -1)=true:=by rw[←hhe];exact hh'
    clear hh'
    go_upto_region 6 with fail
    clear y9 yl by_ f1 ff fl hfr;have hg:=zq W4 gF (r.length*8+1) (.int .i64 (hn:Int));have bx5:Box _ w.heap.size [.int .i64 e1,.int .i64 e2,.int .i64 e3] 63:=bx4.keptTyI (by obtain⟨_,_,_,h⟩:=H4.frm (f:=f) (r:=r) rfl;exact h.row.rowTyI) (by decide) hg;have H5:=H4.at (f:=f) (r:=r) rfl hn;clear H4 bx4 hg;generalize World.setCell _ _ _=W5 at *
    obtain⟨g2,q2,hgs2,hfr⟩:=H5.frm (f:={ f with at_:=hn}) (r:=r) rfl;have f5:=hfr.cell (j:=5) (u:= .int .i64 f.exc.1) rfl;have f6:=hfr.cell (j:=6) (u:= .int .i64 f.exc.2.1) rfl;have f7:=hfr.cell (j:=7) (u:= .int .i64 f.exc.2.2) rfl;have ff:=fun i=>hfr.freeF i
    have fl:=hfr.ltF.2;have z0:=bx5.cell 0 rfl;have z1:=bx5.cell 1 rfl;have z2:=bx5.cell 2 rfl;have zl:=bx5.lt
    go_wp2_with fail
    refine bodyPost_ret (results_none rfl _ _ _) rfl ?_;have H6:=H5.exc (f:={ f with at_:=hn}) (r:=r) rfl e1 e2 e3;refine⟨rfl,?_⟩;rw[HM.out,hraise.out];exact⟨_,_,_,_,_,H6⟩
theorem afg(s:ByteArray)(o:Option Nat)(W:World):(Instr.field 177 (.agg #[.string s,.map o]) 0).run Tryz.prog W = .ok (.string s) W:=by kernel_rfl
theorem Own.none0{α:Type}{cells:α→List Value}{size base n c:Nat}{e:TypeId}{w:World}{A:Option Addr}{l:List α}(h:Own cells size base e w (.slice A n c) l)(h0:A=none):c=0:=by
 subst h0
 rcases h.2 with⟨h1,_⟩|⟨g,cap,cur,hv,_⟩
 ·injection h1
 ·injection hv with hv
  cases hv
theorem MSt.enter{u:Unt}{w0 w w':World}{gm:Nat}{AC AF:Option Addr}{cC cF:Nat}{vI vF vO:Value}{b4 b5 k:Nat}{m:Mch}{gs bs:List Nat}(H:MSt u w0 w gm AC AF cC cF vI vF vO b4 b5 k m gs bs){fn:Nat}{call:Int}{vs:List Vl}
  (h:ah3 w w0.heap.size gm (.slice AC u.classes.length cC) (.slice AF u.funcs.length cF) (.int .i64 u.main) vI (.map (some b4)) (.map (some b5)) vO (.int .i64 m.en) m.frs gs m.made fn call vs w'):MNx u w0 gm AC AF cC cF b4 b5 (k+1) { m with frs:=frN fn m.made call vs::m.frs,made:=m.made+1} w':=by
 obtain⟨vF',g,h1,h2,h3,h4⟩:=h
 have hO:zN w w0.heap.size vO m.obs (g::gs):=H.ob.blocks (fun b hb=>by
  rcases List.mem_cons.1 hb with rfl|hb
  ·exact Or.inr h3
  ·exact Or.inl hb)
 exact⟨_,_,_,_,_,H.turn h4 (Nat.le_succ _) h1 h2 (hO.keptM h4 (by decide) (by decide)) rfl rfl (by have:=H.md;show m.made+1≤k+1+1;omega)⟩
theorem acV(u:Unt)(w0 w:World)(gm:Nat)(AC AF:Option Addr)(cC cF:Nat)(vI vO:Value)(gF cFr b4 b5 k:Nat)(m:Mch)(gs bs:List Nat)(f:Frm)(r:List Frm)(x:Ins)(AI:Option Addr)(cI:Nat)(H:MSt u w0 w gm AC AF cC cF vI (.slice (some ⟨gF,0,none⟩) (r.length+1) cFr) vO b4 b5 k m gs bs)(hf:m.frs=f::r)(h64:64≤r.length+1) :
  Calls Tryz.prog 91 #[.pointer (some ⟨gm,0,none⟩),.pointer (some ⟨gF,r.length*8,none⟩),.agg #[.int .i64 x.op,.int .i64 x.dst,.int .i64 x.a,.int .i64 x.b,.int .i64 x.n,.string x.cls,.string x.name,.slice AI x.args.length cI,.int .i64 x.jmp,.int .i64 x.hnd]] w fun e w'=>e = .returned (.tuple #[])∧MNx u w0 gm AC AF cC cF b4 b5 k { m with en:=5} w':=by
 have h64I:(64:Int)≤((r.length+1:Nat):Int):=by omega
 go_enter Tryz.func91,Tryz.ntmps91
 go_upto_region 1 with fail
 generalize hW:World.alloc _ _=W1 at *
 have hb1:Below w.heap.size w W1:=by rw[←hW];exact(by repeat(first|assumption|exact v9r|apply zc|apply zd|apply zg|apply ze|apply zi))
 have bc:Box W1 w.heap.size [.int .i64 x.op,.int .i64 x.dst,.int .i64 x.a,.int .i64 x.b,.int .i64 x.n,.string x.cls,.string x.name,.slice AI x.args.length cI,.int .i64 x.jmp,.int .i64 x.hnd] 59:=by rw[←hW];exact Box.new _ _ _
 clear hW;have H1:=H.mono hb1;have q6:=H1.bm.cell 6 rfl;have ql:=H1.bm.lt;have q9:=H1.bm.cell 9 rfl;have qf:=fun i=>H1.bm.free i
 go_wp2_with fail
 refine bodyPost_ret (results_none rfl _ _ _) rfl ?_;exact⟨rfl,_,_,_,_,_,H1.setEn 5⟩
theorem aiN(u:Unt)(w0 w:World)(gm:Nat)(AC AF:Option Addr)(cC cF:Nat)(vI vO:Value)(gF cFr b4 b5 k:Nat)(m:Mch)(gs bs:List Nat)(f:Frm)(r:List Frm)(x:Ins)(AI:Option Addr)(cI:Nat)(H:MSt u w0 w gm AC AF cC cF vI (.slice (some ⟨gF,0,none⟩) (r.length+1) cFr) vO b4 b5 k m gs bs)(hf:m.frs=f::r)(hop:x.op=10)(hlt:r.length+1<64)(fn:Nat)(hfn:fn<u.funcs.length)(hvl:u.funcs[fn].vars.length≤256)(F:Fun)(hcI:x.args.length≤cI)(hsI:Sl Lay.int w AI x.args)(hal:x.args.length≤1000)(hkl:k≤50000)(hol:m.obs.length≤100000)
  (HRA:Hid (∀(i:Nat) (hi:i<x.args.length) (W:World),Below w.heap.size w W→Calls Tryz.prog 90 #[.pointer (some ⟨gm,0,none⟩),.pointer (some ⟨gF,r.length*8,none⟩),.int .i64 x.args[i]] W fun e w'=>e = .returned (vlV (rdV F f.vals x.args[i]))∧Below W.heap.size W w'))
  (hargs:x.args.length≤u.funcs[fn].vars.length) (hfd:qE u.funcs x.cls x.name=(fn:Int)) (m':Mch) (hM:Hid (m'={ m with frs:=frN fn m.made ((m.obs.length:Int)-1) ((x.args.map (rdV F f.vals))++List.replicate (u.funcs[fn].vars.length-x.args.length) (0,0,0))::m.frs,made:=m.made+1})) :
  Calls Tryz.prog 91 #[.pointer (some ⟨gm,0,none⟩),.pointer (some ⟨gF,r.length*8,none⟩),.agg #[.int .i64 x.op,.int .i64 x.dst,.int .i64 x.a,.int .i64 x.b,.int .i64 x.n,.string x.cls,.string x.name,.slice AI x.args.length cI,.int .i64 x.jmp,.int .i64 x.hnd]] w fun e w'=>e = .returned (.tuple #[])∧MNx u w0 gm AC AF cC cF b4 b5 (k+1) m' w':=by
 have t9:(x.op==9)=false:=by rw[hop];rfl
 have h64I:¬(64:Int)≤((r.length+1:Nat):Int):=by omega
 clear hop
 go_enter Tryz.func91,Tryz.ntmps91
 go_upto_region 1 with fail
 generalize hW:World.alloc _ _=W1 at *
 have hb1:Below w.heap.size w W1:=by rw[←hW];exact(by repeat(first|assumption|exact v9r|apply zc|apply zd|apply zg|apply ze|apply zi))
 have bc:Box W1 w.heap.size [.int .i64 x.op,.int .i64 x.dst,.int .i64 x.a,.int .i64 x.b,.int .i64 x.n,.string x.cls,.string x.name,.slice AI x.args.length cI,.int .i64 x.jmp,.int .i64 x.hnd] 59:=by rw[←hW];exact Box.new _ _ _
 clear hW;have H1:=H.mono hb1;have q6:=H1.bm.cell 6 rfl;have ql:=H1.bm.lt;have y0:=bc.cell 0 rfl;have yl:=bc.lt
 go_upto_region 9 with fail
 refine zt 10 (by kernel_rfl) (by kernel_rfl) ?_;have H3:=H1.mono (zd (v9r));have bc3:=bc.drew;have hb3:=hb1.drew;clear q6 ql y0 yl H1 bc hb1;generalize W1.drew=W3 at *
 have HF:=v9h (abJ AC AF u.classes.length cC cF u.main u.funcs x.cls x.name W3 (by have:=H3.un.hfl;omega) H3.funs);rw[hfd] at HF;have q0:=H3.bm.cell 0 rfl;have q1:=H3.bm.cell 1 rfl;have q2:=H3.bm.cell 2 rfl;have ql:=H3.bm.lt;have y5:=bc3.cell 5 rfl;have y6:=bc3.cell 6 rfl;have yl:=bc3.lt;refine RZ.chunkN (f:=2) [0,1,2,3,4,5,6,7] (by kernel_rfl) ?_
 ((simp only[zo,List.filterMap,List.getElem?_toArray,List.getElem?_cons_zero,List.getElem?_cons_succ]);(repeat(go_big_quiet_step (fail)));refine wpQuiet_nil ?_)
 refine RZ.single 8 rfl (by kernel_rfl) (by omega) ?_;intro K hK
 go_wp2_with fail
 refine HF.out.mono ?_;rintro e W4 ⟨rfl,hb4⟩
 go_wp2_with fail
 refine hK _ _ hb4 ?_;have H4:=H3.mono hb4;have bc4:=bc3.mono hb4;have hb4:=za hb3 hb4;clear hK K q0 q1 q2 ql y5 y6 yl H3 bc3 hb3 HF;refine RZ.chunkN (f:=0) [9] (by kernel_rfl) ?_
 ((simp only[zo,List.filterMap,List.getElem?_toArray,List.getElem?_cons_zero,List.getElem?_cons_succ]);(repeat(go_big_quiet_step (fail)));refine wpQuiet_nil ?_)
 (refine RZ.done (by kernel_rfl) (by kernel_rfl) ?_)
 have y7:=bc4.cell 7 rfl;have yl:=bc4.lt
 go_wp2_with fail
 go_loopw [7,59] (fun v7 i wr=>∃k:Nat,k≤x.args.length∧i = .int .i64 k∧Own zI 3 w.heap.size 63 wr v7 ([]++(x.args.take k).map (rdV F f.vals))∧Below w.heap.size w wr) (fun _ i _=>x.args.length-(intOf i).toNat)
 case atStart=>exact⟨0,Nat.zero_le _,rfl,Own.nil,hb4⟩
 case round=>
  obtain⟨k,hk,rfl,hO,hbw⟩:=hrel
  by_cases hlt:k<x.args.length
  ·have hltI:(k:Int)<(x.args.length:Int):=by omega
   obtain⟨bA,oA,rfl,hbA,dA⟩:=(hsI.mono hbw).int_at hlt;have HR1:=v9h (HRA.out k hlt);generalize hrv:rdV F f.vals x.args[k]=vv at *
   obtain⟨a1,a2,a3⟩:=vv;rw[show vlV (a1,a2,a3) = .agg #[.int .i64 a1,.int .i64 a2,.int .i64 a3] from rfl] at HR1
   go_wp2_with fail
   refine(HR1.out _ hbw).mono ?_;rintro e W8 ⟨rfl,hb8⟩;have hO8:=hO.mono hb8;have hb8w:=za hbw hb8;clear dA HR1 hbA hO
   go_wp2_with (at_builtin;refine zF aaq yc rfl (.tmp 63) (.tmp 68) rfl w.heap.size _ ([]++(x.args.take k).map (rdV F f.vals)) rfl (hO8.alloc _) (a1,a2,a3) _ _ rfl (fun j u hj=>Box.cell (Box.new W8 [.int .i64 a1,.int .i64 a2,.int .i64 a3] 63) j hj) (by simp[maxLen];omega) (by simp;omega) (by simp;have:=hb8w.size;omega) ?_;intro v9 W9 hO9 hb9 hg9)
   refine⟨⟨k+1,by omega,by simp,?_,?_⟩,?_⟩
   ·rw[List.take_succ_eq_append_getElem hlt,List.map_append,←List.append_assoc,List.map_singleton,hrv]
    exact hO9
   ·exact(za hb8w (zc (v9r))).trans hb9
   ·simp[intOf];omega
  ·have hke:k=x.args.length:=by omega
   subst hke;rw[List.take_length] at hO;have hltI:¬((x.args.length:Int)<(x.args.length:Int)):=by omega
   have H9:=H.mono hbw;clear HRA hbw;obtain⟨AA,cA,rfl⟩:=hO.sliceOf;have hA0:AA=none→cA=0:=hO.none0;have hSA:=(jE (L:=Lay.vl) hO rfl (fun _=>rfl)).2;generalize hxs:[]++x.args.map (rdV F f.vals)=xs at *
   have HE:=v9h (aau wr w0.heap.size gm u.funcs AF cF _ _ _ _ _ _ _ _ m.frs gs m.made fn ((m.obs.length:Int)-1) AA cA xs H9.bm H9.lo H9.funs hfn hvl H9.fr (by rw[hf,List.length_cons];omega) hSA (by rw[←hxs];simpa using hargs) hA0 (by have:=H9.md;omega) H9.hB);obtain⟨AO,cO,hvO⟩:=(Classical.choose_spec H9.ob.raws).1.sliceOf;have hol2:(Classical.choose H9.ob.raws).length=m.obs.length:=(Classical.choose_spec H9.ob.raws).2.1;rw[hol2] at hvO;have q8:=H9.bm.cell 8 rfl;rw[hvO] at q8;have ql:=H9.bm.lt
   go_wp2_with fail
   refine HE.out.mono ?_;rintro e W10 ⟨rfl,hR⟩
   go_wp2_with fail
   refine bodyPost_end (results_none rfl _ _ _) rfl ?_;refine⟨rfl,?_⟩;have e1:xs=x.args.map (rdV F f.vals):=by rw[←hxs];rfl
   have e2:xs.length=x.args.length:=by rw[e1,List.length_map]
   rw[e2,e1] at hR;rw[hM.out];exact H9.enter hR
theorem ajm(u:Unt)(w0 w:World)(gm:Nat)(AC AF:Option Addr)(cC cF:Nat)(vI vO:Value)(gF cFr b4 b5 k:Nat)(m:Mch)(gs bs:List Nat)(f:Frm)(r:List Frm)(x:Ins)(AI:Option Addr)(cI:Nat)(H:MSt u w0 w gm AC AF cC cF vI (.slice (some ⟨gF,0,none⟩) (r.length+1) cFr) vO b4 b5 k m gs bs)(hf:m.frs=f::r)(hop:x.op=9)(hlt:r.length+1<64)(fn:Nat)(hfn:fn<u.funcs.length)(hvl:u.funcs[fn].vars.length≤256)(F:Fun)(hcI:x.args.length≤cI)(hsI:Sl Lay.int w AI x.args)(hal:x.args.length≤1000)(hkl:k≤50000)(hol:m.obs.length≤100000)
  (HRA:Hid (∀(i:Nat) (hi:i<x.args.length) (W:World),Below w.heap.size w W→Calls Tryz.prog 90 #[.pointer (some ⟨gm,0,none⟩),.pointer (some ⟨gF,r.length*8,none⟩),.int .i64 x.args[i]] W fun e w'=>e = .returned (vlV (rdV F f.vals x.args[i]))∧Below W.heap.size W w'))
  (j:Nat) (v3:Int) (HR:Hid (∀W,Below w.heap.size w W→Calls Tryz.prog 90 #[.pointer (some ⟨gm,0,none⟩),.pointer (some ⟨gF,r.length*8,none⟩),.int .i64 x.a] W fun e w'=>e = .returned (vlV ((3,(j:Int),v3):Vl))∧Below W.heap.size W w')) (hj:j<m.objs.length) (hjc:zG m.objs[j].cls)
  (hargs:x.args.length+1≤u.funcs[fn].vars.length) (hfd:kK u.classes u.funcs m.objs[j].cls x.name=(fn:Int)) (m':Mch) (hM:Hid (m'={ m with frs:=frN fn m.made ((m.obs.length:Int)-1) (((3,(j:Int),v3)::x.args.map (rdV F f.vals))++List.replicate (u.funcs[fn].vars.length-(x.args.length+1)) (0,0,0))::m.frs,made:=m.made+1})) :
  Calls Tryz.prog 91 #[.pointer (some ⟨gm,0,none⟩),.pointer (some ⟨gF,r.length*8,none⟩),.agg #[.int .i64 x.op,.int .i64 x.dst,.int .i64 x.a,.int .i64 x.b,.int .i64 x.n,.string x.cls,.string x.name,.slice AI x.args.length cI,.int .i64 x.jmp,.int .i64 x.hnd]] w fun e w'=>e = .returned (.tuple #[])∧MNx u w0 gm AC AF cC cF b4 b5 (k+1) m' w':=by
 rw[show vlV ((3,(j:Int),v3):Vl) = .agg #[.int .i64 3,.int .i64 (j:Int),.int .i64 v3] from rfl] at HR;have t9:(x.op==9)=true:=by rw[hop];rfl
 have h64I:¬(64:Int)≤((r.length+1:Nat):Int):=by omega
 clear hop
 go_enter Tryz.func91,Tryz.ntmps91
 go_upto_region 1 with fail
 generalize hW:World.alloc _ _=W1 at *
 have hb1:Below w.heap.size w W1:=by rw[←hW];exact(by repeat(first|assumption|exact v9r|apply zc|apply zd|apply zg|apply ze|apply zi))
 have bc:Box W1 w.heap.size [.int .i64 x.op,.int .i64 x.dst,.int .i64 x.a,.int .i64 x.b,.int .i64 x.n,.string x.cls,.string x.name,.slice AI x.args.length cI,.int .i64 x.jmp,.int .i64 x.hnd] 59:=by rw[←hW];exact Box.new _ _ _
 clear hW;have H1:=H.mono hb1;have q6:=H1.bm.cell 6 rfl;have ql:=H1.bm.lt;have y0:=bc.cell 0 rfl;have y2:=bc.cell 2 rfl;have yl:=bc.lt
 go_wp2_with fail
 refine(HR.out _ hb1).mono ?_;rintro e W2 ⟨rfl,hb2⟩;have H2:=H1.mono hb2;have bc2:=bc.mono hb2;have hb2:=za hb1 hb2;clear q6 ql y0 y2 yl H1 bc hb1 HR
 go_upto_region 7 with fail
 generalize hW:World.alloc _ _=W3 at *
 have hb23:Below W2.heap.size W2 W3:=by rw[←hW];exact(by repeat(first|assumption|exact v9r|apply zc|apply zd|apply zg|apply ze|apply zi))
 have bx:Box W3 W2.heap.size [.int .i64 3,.int .i64 (j:Int),.int .i64 v3] 63:=by rw[←hW];exact Box.new _ _ _
 clear hW;have H3:=H2.mono hb23;have bc3:=bc2.mono hb23;have hb3:=za hb2 hb23;clear H2 bc2 hb2 hb23;have z0:=bx.cell 0 rfl;have z1:=bx.cell 1 rfl;have z2:=bx.cell 2 rfl;have zl:=bx.lt
 go_upto_region 8 with(at_builtin;refine zF aaq yc rfl (.tmp 28) (.tmp 30) rfl W3.heap.size _ [] rfl Own.nil (3,(j:Int),v3) _ _ rfl (fun j u hj=>Box.cell (Box.new W3 [.int .i64 3,.int .i64 _,.int .i64 v3] 63) j hj) (by simp[maxLen]) (by simp) (by simp) ?_;intro v4 W4 hO4 hb4 hg4)
 have hb34:Below W3.heap.size W3 W4:=(zc (v9r)).trans hb4;clear z0 z1 z2 zl hg4 hb4;have H4:=H3.mono hb34;have bc4:=bc3.mono hb34;have bx4:=bx.mono hb34;have hO4:=Own.base0 hO4 hb3.size;have hb4:=za hb3 hb34;clear H3 bc3 bx hb34 hb3;refine zt 16 (by kernel_rfl) (by kernel_rfl) ?_;have H5:=H4.mono (zd (v9r));have bc5:=bc4.drew;have bx5:=bx4.drew;have hb5:=hb4.drew;have hO5:Own zI 3 w.heap.size 63 W4.drew v4 ([]++[(3,(j:Int),v3)]):=hO4;clear H4 bc4 bx4 hb4 hO4;generalize W4.drew=W5 at *
 have hoc:=H5.oc;obtain⟨b,hbb,hlk⟩:=H5.oj.lookL hj (yY (by omega) (by omega));have hof:=afg;have HF:=v9h (ahx u AC AF cC cF m.objs[j].cls x.name W5 H5.un.hl H5.un.hcc H5.un.hok.names hjc H5.clss (v9h H5.un.hlk) H5.un.hfl H5.funs);rw[hfd] at HF;have q0:=H5.bm.cell 0 rfl;have q1:=H5.bm.cell 1 rfl;have q2:=H5.bm.cell 2 rfl;have q5:=H5.bm.cell 5 rfl;have ql:=H5.bm.lt;have z1:=bx5.cell 1 rfl;have zl:=bx5.lt;have y6:=bc5.cell 6 rfl;have yl:=bc5.lt;refine RZ.chunkN (f:=2) [0,1,2,3,4,5,6,7,8,9,10,11,12,13] (by kernel_rfl) ?_
 ((simp only[zo,List.filterMap,List.getElem?_toArray,List.getElem?_cons_zero,List.getElem?_cons_succ]);(repeat(go_big_quiet_step (fail)));refine wpQuiet_nil ?_)
 refine RZ.single 14 rfl (by kernel_rfl) (by omega) ?_;intro K hK
 go_wp2_with fail
 refine HF.out.mono ?_;rintro e W6 ⟨rfl,hb6⟩
 go_wp2_with fail
 refine hK _ _ hb6 ?_;have H6:=H5.mono hb6;have bc6:=bc5.mono hb6;have hO6:=hO5.mono hb6;have hb6:=za hb5 hb6;clear hK K q0 q1 q2 q5 ql z1 zl y6 yl H5 bc5 bx5 hb5 HF hlk hof hO5;refine RZ.chunkN (f:=0) [15] (by kernel_rfl) ?_
 ((simp only[zo,List.filterMap,List.getElem?_toArray,List.getElem?_cons_zero,List.getElem?_cons_succ]);(repeat(go_big_quiet_step (fail)));refine wpQuiet_nil ?_)
 (refine RZ.done (by kernel_rfl) (by kernel_rfl) ?_)
 have y7:=bc6.cell 7 rfl;have yl:=bc6.lt
 go_wp2_with fail
 go_loopw [7,59] (fun v7 i wr=>∃k:Nat,k≤x.args.length∧i = .int .i64 k∧Own zI 3 w.heap.size 63 wr v7 ([(3,(j:Int),v3)]++(x.args.take k).map (rdV F f.vals))∧Below w.heap.size w wr) (fun _ i _=>x.args.length-(intOf i).toNat)
 case atStart=>exact⟨0,Nat.zero_le _,rfl,(by simpa using hO6),hb6⟩
 case round=>
  obtain⟨k,hk,rfl,hO,hbw⟩:=hrel
  by_cases hlt:k<x.args.length
  ·have hltI:(k:Int)<(x.args.length:Int):=by omega
   obtain⟨bA,oA,rfl,hbA,dA⟩:=(hsI.mono hbw).int_at hlt;have HR1:=v9h (HRA.out k hlt);generalize hrv:rdV F f.vals x.args[k]=vv at *
   obtain⟨a1,a2,a3⟩:=vv;rw[show vlV (a1,a2,a3) = .agg #[.int .i64 a1,.int .i64 a2,.int .i64 a3] from rfl] at HR1
   go_wp2_with fail
   refine(HR1.out _ hbw).mono ?_;rintro e W8 ⟨rfl,hb8⟩;have hO8:=hO.mono hb8;have hb8w:=za hbw hb8;clear dA HR1 hbA hO
   go_wp2_with (at_builtin;refine zF aaq yc rfl (.tmp 63) (.tmp 68) rfl w.heap.size _ ([(3,(j:Int),v3)]++(x.args.take k).map (rdV F f.vals)) rfl (hO8.alloc _) (a1,a2,a3) _ _ rfl (fun j u hj=>Box.cell (Box.new W8 [.int .i64 a1,.int .i64 a2,.int .i64 a3] 63) j hj) (by simp[maxLen];omega) (by simp;omega) (by simp;have:=hb8w.size;omega) ?_;intro v9 W9 hO9 hb9 hg9)
   refine⟨⟨k+1,by omega,by simp,?_,?_⟩,?_⟩
   ·rw[List.take_succ_eq_append_getElem hlt,List.map_append,←List.append_assoc,List.map_singleton,hrv]
    exact hO9
   ·exact(za hb8w (zc (v9r))).trans hb9
   ·simp[intOf];omega
  ·have hke:k=x.args.length:=by omega
   subst hke;rw[List.take_length] at hO;have hltI:¬((x.args.length:Int)<(x.args.length:Int)):=by omega
   have H9:=H.mono hbw;clear HRA hbw;obtain⟨AA,cA,rfl⟩:=hO.sliceOf;have hA0:AA=none→cA=0:=hO.none0;have hSA:=(jE (L:=Lay.vl) hO rfl (fun _=>rfl)).2;generalize hxs:[(3,(j:Int),v3)]++x.args.map (rdV F f.vals)=xs at *
   have HE:=v9h (aau wr w0.heap.size gm u.funcs AF cF _ _ _ _ _ _ _ _ m.frs gs m.made fn ((m.obs.length:Int)-1) AA cA xs H9.bm H9.lo H9.funs hfn hvl H9.fr (by rw[hf,List.length_cons];omega) hSA (by rw[←hxs];simpa using hargs) hA0 (by have:=H9.md;omega) H9.hB);obtain⟨AO,cO,hvO⟩:=(Classical.choose_spec H9.ob.raws).1.sliceOf;have hol2:(Classical.choose H9.ob.raws).length=m.obs.length:=(Classical.choose_spec H9.ob.raws).2.1;rw[hol2] at hvO;have q8:=H9.bm.cell 8 rfl;rw[hvO] at q8;have ql:=H9.bm.lt
   go_wp2_with fail
   refine HE.out.mono ?_;rintro e W10 ⟨rfl,hR⟩
   go_wp2_with fail
   refine bodyPost_end (results_none rfl _ _ _) rfl ?_;refine⟨rfl,?_⟩;have e1:xs=(3,(j:Int),v3)::x.args.map (rdV F f.vals):=by rw[←hxs];rfl
   have e2:xs.length=x.args.length+1:=by rw[e1,List.length_cons,List.length_map]
   rw[e2,e1] at hR;rw[hM.out];exact H9.enter hR
theorem ajn{cs:List Cls}{s:ByteArray}(h:0≤fnd cs s):∃c∈cs,c.name=s:=by
 unfold fnd idxI at h
 cases hq:cs.findIdx? (yP s) with
 |none=>rw[hq] at h;exact absurd h (by decide)
 |some i=>
  obtain⟨hi,hp,_⟩:=List.findIdx?_eq_some_iff_getElem.1 hq;exact⟨cs[i],List.getElem_mem hi,jY.1 hp⟩
theorem af5{cs:List Cls}(hs:yQ cs){s:ByteArray}(h:0≤fnd cs s):zG s:=by
 obtain⟨c,hc,rfl⟩:=ajn h;exact(hs c hc).1.1
theorem abQ{cs:List Cls}{n:ByteArray}:∀{l:List Int},(ya cs n l).2.2=true→∃i,0≤fIdx cs n i
 |[],h=>by cases h
 |i::l,h=>by
  by_cases h0:0≤fIdx cs n i
  ·exact⟨i,h0⟩
  ·have e:ya cs n (i::l)=ya cs n l:=by rw[ya,if_neg h0]
   rw[e] at h;exact abQ h
theorem aa2(u:Unt)(w0 w:World)(gm:Nat)(AC AF:Option Addr)(cC cF:Nat)(vI vO:Value)(gF cFr b4 b5 k:Nat)(m:Mch)(gs bs:List Nat)(f:Frm)(r:List Frm)(x:Ins)(AI:Option Addr)(cI:Nat)(H:MSt u w0 w gm AC AF cC cF vI (.slice (some ⟨gF,0,none⟩) (r.length+1) cFr) vO b4 b5 k m gs bs)(hf:m.frs=f::r)(v:Vl)(HR:Hid (∀W,Below w.heap.size w W→Calls Tryz.prog 90 #[.pointer (some ⟨gm,0,none⟩),.pointer (some ⟨gF,r.length*8,none⟩),.int .i64 x.a] W fun e w'=>e = .returned (vlV v)∧Below W.heap.size W w'))(hv:v.1≠3) :
  Calls Tryz.prog 95 #[.pointer (some ⟨gm,0,none⟩),.pointer (some ⟨gF,r.length*8,none⟩),.agg #[.int .i64 x.op,.int .i64 x.dst,.int .i64 x.a,.int .i64 x.b,.int .i64 x.n,.string x.cls,.string x.name,.slice AI x.args.length cI,.int .i64 x.jmp,.int .i64 x.hnd]] w fun e w'=>e = .returned (.tuple #[])∧MNx u w0 gm AC AF cC cF b4 b5 k { m with en:=3} w':=by
 obtain⟨v1,v2,v3⟩:=v;rw[show vlV (v1,v2,v3) = .agg #[.int .i64 v1,.int .i64 v2,.int .i64 v3] from rfl] at HR;have hv':(v1 != 3)=true:=by rw[bne_iff_ne];exact hv
 go_enter Tryz.func95,Tryz.ntmps95
 go_upto_region 1 with fail
 generalize hW:World.alloc _ _=W1 at *
 have hb1:Below w.heap.size w W1:=by rw[←hW];exact(by repeat(first|assumption|exact v9r|apply zc|apply zd|apply zg|apply ze|apply zi))
 have bc:Box W1 w.heap.size [.int .i64 x.op,.int .i64 x.dst,.int .i64 x.a,.int .i64 x.b,.int .i64 x.n,.string x.cls,.string x.name,.slice AI x.args.length cI,.int .i64 x.jmp,.int .i64 x.hnd] 59:=by rw[←hW];exact Box.new _ _ _
 clear hW;have y2:=bc.cell 2 rfl;have yl:=bc.lt
 go_wp2_with fail
 refine(HR.out _ hb1).mono ?_;rintro e W2 ⟨rfl,hb2⟩;have H2:=H.mono (za hb1 hb2);have bc2:=bc.mono hb2;clear y2 yl bc
 go_upto_region 2 with fail
 generalize hW:World.alloc _ _=W3 at *
 have hb23:Below W2.heap.size W2 W3:=by rw[←hW];exact(by repeat(first|assumption|exact v9r|apply zc|apply zd|apply zg|apply ze|apply zi))
 have bx:Box W3 W2.heap.size [.int .i64 v1,.int .i64 v2,.int .i64 v3] 63:=by rw[←hW];exact Box.new _ _ _
 clear hW;have hb3:=za (za hb1 hb2) hb23;have H3:=H2.mono hb23;have bc3:=bc2.mono hb23;clear H2 bc2 hb1 hb2 hb23;have z0:=bx.cell 0 rfl;have zl:=bx.lt;have q9:=H3.bm.cell 9 rfl;have qf:=fun i=>H3.bm.free i
 have ql:=H3.bm.lt;clear HR
 go_wp2_with fail
 refine bodyPost_ret (results_none rfl _ _ _) rfl ?_;exact⟨rfl,_,_,_,_,_,H3.setEn 3⟩
theorem ahM(u:Unt)(w0 w:World)(gm:Nat)(AC AF:Option Addr)(cC cF:Nat)(vI vO:Value)(gF cFr b4 b5 k:Nat)(m:Mch)(gs bs:List Nat)(f:Frm)(r:List Frm)(x:Ins)(AI:Option Addr)(cI:Nat)(H:MSt u w0 w gm AC AF cC cF vI (.slice (some ⟨gF,0,none⟩) (r.length+1) cFr) vO b4 b5 k m gs bs)(hf:m.frs=f::r)(j d:Nat)(v3:Int)(HR:Hid (∀W,Below w.heap.size w W→Calls Tryz.prog 90 #[.pointer (some ⟨gm,0,none⟩),.pointer (some ⟨gF,r.length*8,none⟩),.int .i64 x.a] W fun e w'=>e = .returned (vlV ((3,(j:Int),v3):Vl))∧Below W.heap.size W w'))(hop:x.op=7)(hj:j<m.objs.length)(hjl:m.objs.length≤100000)(hxd:x.dst=(d:Int))(hd:d<f.vals.length)(hnm:zG x.name)(hjc:zG m.objs[j].cls)(hatl:f.at_≤100000)(hfl:(zz u.classes m.objs[j].cls x.name).2.2=true) :
  Calls Tryz.prog 95 #[.pointer (some ⟨gm,0,none⟩),.pointer (some ⟨gF,r.length*8,none⟩),.agg #[.int .i64 x.op,.int .i64 x.dst,.int .i64 x.a,.int .i64 x.b,.int .i64 x.n,.string x.cls,.string x.name,.slice AI x.args.length cI,.int .i64 x.jmp,.int .i64 x.hnd]] w fun e w'=>e = .returned (.tuple #[])∧MNx u w0 gm AC AF cC cF b4 b5 k { m with frs:={ f with vals:=f.vals.set d (m.objs[j].val x.name),at_:=f.at_+1}::r} w':=by
 have t8:(x.op==8)=false:=by rw[hop];rfl
 have hdI:(d:Int)<(f.vals.length:Int):=by omega
 rw[hxd];clear hop hxd;rw[show vlV ((3,(j:Int),v3):Vl) = .agg #[.int .i64 3,.int .i64 (j:Int),.int .i64 v3] from rfl] at HR
 go_enter Tryz.func95,Tryz.ntmps95
 go_upto_region 1 with fail
 generalize hW:World.alloc _ _=W1 at *
 have hb1:Below w.heap.size w W1:=by rw[←hW];exact(by repeat(first|assumption|exact v9r|apply zc|apply zd|apply zg|apply ze|apply zi))
 have bc:Box W1 w.heap.size [.int .i64 x.op,.int .i64 (d:Int),.int .i64 x.a,.int .i64 x.b,.int .i64 x.n,.string x.cls,.string x.name,.slice AI x.args.length cI,.int .i64 x.jmp,.int .i64 x.hnd] 59:=by rw[←hW];exact Box.new _ _ _
 clear hW;have y2:=bc.cell 2 rfl;have yl:=bc.lt
 go_wp2_with fail
 refine(HR.out _ hb1).mono ?_;rintro e W2 ⟨rfl,hb2⟩;have H2:=H.mono (za hb1 hb2);have bc2:=bc.mono hb2;clear y2 yl bc
 go_upto_region 2 with fail
 generalize hW:World.alloc _ _=W3 at *
 have hb23:Below W2.heap.size W2 W3:=by rw[←hW];exact(by repeat(first|assumption|exact v9r|apply zc|apply zd|apply zg|apply ze|apply zi))
 have bx:Box W3 W2.heap.size [.int .i64 3,.int .i64 (j:Int),.int .i64 v3] 63:=by rw[←hW];exact Box.new _ _ _
 clear hW;have hb3:=za (za hb1 hb2) hb23;have H3:=H2.mono hb23;have bc3:=bc2.mono hb23;clear H2 bc2 hb1 hb2 hb23;have z0:=bx.cell 0 rfl;have zl:=bx.lt
 go_upto_region 4 with fail
 refine zt 8 (by kernel_rfl) (by kernel_rfl) ?_;have H4:=H3.mono (zd (v9r));have bc4:=bc3.drew;have bx4:=bx.drew;have hb4:=hb3.drew;clear z0 zl H3 bc3 bx hb3;generalize W3.drew=W4 at *
 obtain⟨b,hbb,hlk⟩:=H4.oj.lookL hj (yY (by omega) (by omega));have q5:=H4.bm.cell 5 rfl;have ql:=H4.bm.lt;have z1:=bx4.cell 1 rfl;have zl:=bx4.lt;refine RZ.chunkN (f:=1) [0,1,2,3,4,5,6] (by kernel_rfl) ?_
 ((simp only[zo,List.filterMap,List.getElem?_toArray,List.getElem?_cons_zero,List.getElem?_cons_succ]);(repeat(go_big_quiet_step (fail)));refine wpQuiet_nil ?_)
 clear hlk q5 ql z1 zl bx4;refine RZ.single 7 rfl (by kernel_rfl) (by omega) ?_;intro K hK
 go_wp2_with fail
 refine hK _ _ (zc (v9r)) ?_;clear hK K
 (refine RZ.tail (by kernel_rfl) ?_;(simp only[List.drop_succ_cons,List.drop_zero]))
 go_upto_region 5 with fail
 generalize hW:World.alloc W4 _=W6 at *
 have hb46:Below W4.heap.size W4 W6:=by rw[←hW];exact(by repeat(first|assumption|exact v9r|apply zc|apply zd|apply zg|apply ze|apply zi))
 have bz:Box W6 W4.heap.size [.string m.objs[j].cls,.map (some b)] 177:=by rw[←hW];exact Box.new _ _ _
 clear hW;have H6:=H4.mono hb46;have bc6:=bc4.mono hb46;have hb6:=za hb4 hb46;clear H4 bc4 hb4 hb46;have y0:=bc6.cell 0 rfl;have y6:=bc6.cell 6 rfl;have yl:=bc6.lt;obtain⟨nF,fm,hfm,hfmn,hval⟩:=H6.oj.flds j m.objs[j] b (List.getElem?_eq_getElem hj) hbb;have hv:=hval x.name hnm hfl;clear hfl;generalize hvv:m.objs[j].val x.name=vv at *
 obtain⟨a1,a2,a3⟩:=vv;replace hvv:=v9h hvv;have z0:=bz.cell 0 rfl;have z1:=bz.cell 1 rfl;have zl:=bz.lt;have hlk:=hfm.look_ok hnm
 cases hq:fm x.name with
 |some yv=>
  rw[hq] at hlk hv;replace hv:((a1,a2,a3):Vl)=yv:=hv;subst hv;replace hlk:(Instr.lookup 175 (.map (some b)) (.string x.name) true).run Tryz.prog W6 = .ok (.tuple #[.agg #[.int .i64 a1,.int .i64 a2,.int .i64 a3],.bool true]) W6:=hlk;clear hq hval hfm hfmn
  go_upto_region 8 with fail
  generalize hW:World.alloc _ _=W7 at *
  have hb67:Below W6.heap.size W6 W7:=by rw[←hW];exact(by repeat(first|assumption|exact v9r|apply zc|apply zd|apply zg|apply ze|apply zi))
  have bv:Box W7 W6.heap.size [.int .i64 a1,.int .i64 a2,.int .i64 a3] 63:=by rw[←hW];exact Box.new _ _ _
  clear hW hlk y0 y6 yl z0 z1 zl bz;have H7:=H6.mono hb67;have bc7:=bc6.mono hb67;clear H6 bc6 hb67
  go_upto_region 9 with fail
  refine zt 8 (by kernel_rfl) (by kernel_rfl) ?_;have H8:=H7.mono (zd (v9r));have bc8:=bc7.drew;have bv8:=bv.drew;clear H7 bc7 bv;generalize W7.drew=W8 at *
  obtain⟨g,q,rfl,hfr⟩:=H8.frm hf;have f4:=hfr.cell (j:=4) (u:= .slice (some ⟨g,0,none⟩) f.vals.length f.vals.length) rfl;have fl:=hfr.ltF.2;have y1:=bc8.cell 1 rfl;have yl:=bc8.lt;have z0:=bv8.cell 0 rfl;have z1:=bv8.cell 1 rfl;have z2:=bv8.cell 2 rfl;have zl:=bv8.lt;refine RZ.chunkN (f:=0) [0,1,2,3,4,5,6,7] (by kernel_rfl) ?_
  ((simp only[zo,List.filterMap,List.getElem?_toArray,List.getElem?_cons_zero,List.getElem?_cons_succ]);(repeat(go_big_quiet_step (fail)));refine wpQuiet_nil ?_)
  (refine RZ.tail (by kernel_rfl) ?_;(simp only[List.drop_succ_cons,List.drop_zero]))
  clear f4 fl y1 yl z0 z1 z2 zl bc8 bv8;obtain⟨⟨w1,w2,w3⟩,vf,vl⟩:=hfr.valCells hd
  go_upto_region 12 with fail
  clear w1 w2 w3 vf vl hfr;have H9:=H8.val hf rfl hd a1 a2 a3;clear H8;generalize World.setCell _ _ _=W9' at *
  obtain⟨g',q',hgs',hfr⟩:=H9.frm (f:={ f with vals:=f.vals.set d (a1,a2,a3)}) (r:=r) rfl;have f1c:=hfr.cell (j:=1) (u:= .int .i64 (f.at_:Int)) rfl;have ff:=fun i=>hfr.freeF i
  have fl:=hfr.ltF.2
  go_wp2_with fail
  refine bodyPost_end (results_none rfl _ _ _) rfl ?_;rw[hvv.out];exact⟨rfl,_,_,_,_,_,H9.at (f:={ f with vals:=f.vals.set d (a1,a2,a3)}) (r:=r) rfl (f.at_+1)⟩
 |none=>
  rw[hq] at hlk hv;replace hv:((a1,a2,a3):Vl)=iniV (zz u.classes m.objs[j].cls x.name).2.1:=hv;replace hlk:(Instr.lookup 175 (.map (some b)) (.string x.name) true).run Tryz.prog W6 = .ok (.tuple #[.agg #[.int .i64 0,.int .i64 0,.int .i64 0],.bool false]) W6:=hlk;clear hq hval hfm hfmn
  go_upto_region 8 with fail
  generalize hW:World.alloc _ _=W7 at *
  have hb67:Below W6.heap.size W6 W7:=by rw[←hW];exact(by repeat(first|assumption|exact v9r|apply zc|apply zd|apply zg|apply ze|apply zi))
  clear hW hlk y0 y6 yl z0 z1 zl;have H7:=H6.mono hb67;have bc7:=bc6.mono hb67;have bz7:=bz.mono hb67;clear H6 bc6 hb67 bz
  go_upto_region 10 with fail
  refine zt 17 (by kernel_rfl) (by kernel_rfl) ?_;have H8:=H7.mono (zd (v9r));have bc8:=bc7.drew;have bz8:=bz7.drew;clear H7 bc7 bz7;generalize W7.drew=W8 at *
  have HF:=v9h (acu AC cC u.classes m.objs[j].cls x.name W8 H8.un.hl H8.un.hcc H8.clss H8.un.hok.names (v9h H8.un.hlk) hjc);generalize zz u.classes m.objs[j].cls x.name=fs at *
  obtain⟨fs1,fs2,fs3⟩:=fs;have q0:=H8.bm.cell 0 rfl;have ql:=H8.bm.lt;have z0:=bz8.cell 0 rfl;have zl:=bz8.lt;have y6:=bc8.cell 6 rfl;have yl:=bc8.lt;refine RZ.chunkN (f:=8) [0,1,2,3,4,5,6,7,8] (by kernel_rfl) ?_
  ((simp only[zo,List.filterMap,List.getElem?_toArray,List.getElem?_cons_zero,List.getElem?_cons_succ]);(repeat(go_big_quiet_step (fail)));refine wpQuiet_nil ?_)
  refine RZ.single 9 rfl (by kernel_rfl) (by omega) ?_;intro K hK
  go_wp2_with fail
  refine HF.out.mono ?_;rintro e W9 ⟨rfl,hb9⟩
  go_wp2_with fail
  refine hK _ _ hb9 ?_;have H9:=H8.mono hb9;have bc9:=bc8.mono hb9;clear hK K q0 ql z0 zl y6 yl H8 bc8 bz8 HF hb9;refine RZ.chunkN (f:=0) [10,11,12,13,14,15,16] (by kernel_rfl) ?_
  ((simp only[zo,List.filterMap,List.getElem?_toArray,List.getElem?_cons_zero,List.getElem?_cons_succ]);(repeat(go_big_quiet_step (fail)));refine wpQuiet_nil ?_)
  (refine RZ.done (by kernel_rfl) (by kernel_rfl) ?_)
  go_upto_region 11 with fail
  refine zt 9 (by kernel_rfl) (by kernel_rfl) ?_;have H10:=H9.mono (zd (v9r));have bc10:=bc9.drew;clear H9 bc9;generalize W9.drew=W10 at *
  have HN:=v9h (xo fs2 W10);rw[←show((a1,a2,a3):Vl)=iniV fs2 from hv,show vlV (a1,a2,a3) = .agg #[.int .i64 a1,.int .i64 a2,.int .i64 a3] from rfl] at HN;clear hv;obtain⟨g,q,hgs,hfr⟩:=H10.frm hf;have f4:=hfr.cell (j:=4) (u:= .slice (some ⟨g,0,none⟩) f.vals.length f.vals.length) rfl;have fl:=hfr.ltF.2;have y1:=bc10.cell 1 rfl;have yl:=bc10.lt;refine RZ.chunkN (f:=2) [0,1,2,3,4,5,6] (by kernel_rfl) ?_
  ((simp only[zo,List.filterMap,List.getElem?_toArray,List.getElem?_cons_zero,List.getElem?_cons_succ]);(repeat(go_big_quiet_step (fail)));refine wpQuiet_nil ?_)
  refine RZ.single 7 rfl (by kernel_rfl) (by omega) ?_;intro K hK
  go_wp2_with fail
  refine HN.out.mono ?_;rintro e W8 ⟨rfl,hb8⟩
  go_wp2_with fail
  refine hK _ _ hb8 ?_;have H8:=H10.mono hb8;clear hK K f4 fl y1 yl H10 bc10 HN hfr;subst hgs;obtain⟨g',q',hgs',hfr⟩:=H8.frm hf;injection hgs' with h1 h2
  subst h1 h2;refine RZ.chunkN (f:=0) [8] (by kernel_rfl) ?_
  ((simp only[zo,List.filterMap,List.getElem?_toArray,List.getElem?_cons_zero,List.getElem?_cons_succ]);(repeat(go_big_quiet_step (fail)));refine wpQuiet_nil ?_)
  (refine RZ.tail (by kernel_rfl) ?_;(simp only[List.drop_succ_cons,List.drop_zero]))
  obtain⟨⟨w1,w2,w3⟩,vf,vl⟩:=hfr.valCells hd
  go_upto_region 12 with fail
  clear w1 w2 w3 vf vl hfr;have H9:=H8.val hf rfl hd a1 a2 a3;clear H8;generalize World.setCell _ _ _=W9' at *
  obtain⟨g',q',hgs',hfr⟩:=H9.frm (f:={ f with vals:=f.vals.set d (a1,a2,a3)}) (r:=r) rfl;have f1c:=hfr.cell (j:=1) (u:= .int .i64 (f.at_:Int)) rfl;have ff:=fun i=>hfr.freeF i
  have fl:=hfr.ltF.2
  go_wp2_with fail
  refine bodyPost_end (results_none rfl _ _ _) rfl ?_;rw[hvv.out];exact⟨rfl,_,_,_,_,_,H9.at (f:={ f with vals:=f.vals.set d (a1,a2,a3)}) (r:=r) rfl (f.at_+1)⟩
theorem MSt.fld{u:Unt}{w0 w w':World}{gm:Nat}{AC AF:Option Addr}{cC cF:Nat}{vI vF vO:Value}{b4 b5 k:Nat}{m:Mch}{gs bs:List Nat}(H:MSt u w0 w gm AC AF cC cF vI vF vO b4 b5 k m gs bs){j b n:Nat}{o:Hob}(ho:m.objs[j]? = some o)(hbb:bs[j]? = some b){fm:ByteArray→Option Vl}(h0:MapE qI w b n fm)(hn:n≤k)
  (hv:∀nm,zG nm→(zz u.classes o.cls nm).2.2=true→o.val nm=(fm nm).getD (iniV (zz u.classes o.cls nm).2.1)) {nm:ByteArray} {y:Vl} (hm:MapE qI w' b (if(fm nm).isSome then n else n+1) (putF fm nm y)) (hg:w.grownBy w' (some b)) :
  MSt u w0 w' gm AC AF cC cF vI vF vO b4 b5 (k+1) { m with objs:=m.objs.set j ⟨o.cls,fun q=>if q=nm then y else o.val q⟩} gs bs:=by
 have hbm:b∈bs:=List.mem_of_getElem? hbb;have hC:KpC w w':=KpC.map hg (fun _ _ _=>h0.noCells);refine⟨H.un,H.hw.trans (aas hg H.hw.size (fun k hk=>by injection hk with hk;have:=H.mlo b (by simp[hbm]);omega)),H.hB,H.bm.keptC hC,H.fr.keptC hC,H.ob.keptC hC,H.oj.store ho hbb hn hv (by split<;>omega) hm hg,?_,H.inp,H.dis,H.mlo,by have:=H.md;show m.made≤k+1+1;omega,by rw[List.length_set];have:=H.oc;omega⟩;obtain⟨n4,f4,h1,h2⟩:=H.si;refine⟨n4,f4,h1.kept hg (fun e=>H.dis ?_),h2⟩;injection e with e
 rw[e];exact List.mem_cons_of_mem _ hbm
theorem ahN(u:Unt)(w0 w:World)(gm:Nat)(AC AF:Option Addr)(cC cF:Nat)(vI vO:Value)(gF cFr b4 b5 k:Nat)(m:Mch)(gs bs:List Nat)(f:Frm)(r:List Frm)(x:Ins)(AI:Option Addr)(cI:Nat)(H:MSt u w0 w gm AC AF cC cF vI (.slice (some ⟨gF,0,none⟩) (r.length+1) cFr) vO b4 b5 k m gs bs)(hf:m.frs=f::r)(j:Nat)(v3:Int)(HR:Hid (∀W,Below w.heap.size w W→Calls Tryz.prog 90 #[.pointer (some ⟨gm,0,none⟩),.pointer (some ⟨gF,r.length*8,none⟩),.int .i64 x.a] W fun e w'=>e = .returned (vlV ((3,(j:Int),v3):Vl))∧Below W.heap.size W w'))(hop:x.op=8)(hj:j<m.objs.length)(hjl:m.objs.length≤100000)(hkl:k≤100000)(hnm:zG x.name)(hatl:f.at_≤100000)(vb:Vl)(HRB:Hid (∀W,Below w.heap.size w W→Calls Tryz.prog 90 #[.pointer (some ⟨gm,0,none⟩),.pointer (some ⟨gF,r.length*8,none⟩),.int .i64 x.b] W fun e w'=>e = .returned (vlV vb)∧Below W.heap.size W w')) :
  Calls Tryz.prog 95 #[.pointer (some ⟨gm,0,none⟩),.pointer (some ⟨gF,r.length*8,none⟩),.agg #[.int .i64 x.op,.int .i64 x.dst,.int .i64 x.a,.int .i64 x.b,.int .i64 x.n,.string x.cls,.string x.name,.slice AI x.args.length cI,.int .i64 x.jmp,.int .i64 x.hnd]] w fun e w'=>e = .returned (.tuple #[])∧MNx u w0 gm AC AF cC cF b4 b5 (k+1) { m with objs:=m.objs.set j ⟨m.objs[j].cls,fun q=>if q=x.name then vb else m.objs[j].val q⟩,frs:={ f with at_:=f.at_+1}::r} w':=by
 obtain⟨b1,b2,b3⟩:=vb;rw[show vlV (b1,b2,b3) = .agg #[.int .i64 b1,.int .i64 b2,.int .i64 b3] from rfl] at HRB;have t8:(x.op==8)=true:=by rw[hop];rfl
 clear hop;rw[show vlV ((3,(j:Int),v3):Vl) = .agg #[.int .i64 3,.int .i64 (j:Int),.int .i64 v3] from rfl] at HR
 go_enter Tryz.func95,Tryz.ntmps95
 go_upto_region 1 with fail
 generalize hW:World.alloc _ _=W1 at *
 have hb1:Below w.heap.size w W1:=by rw[←hW];exact(by repeat(first|assumption|exact v9r|apply zc|apply zd|apply zg|apply ze|apply zi))
 have bc:Box W1 w.heap.size [.int .i64 x.op,.int .i64 x.dst,.int .i64 x.a,.int .i64 x.b,.int .i64 x.n,.string x.cls,.string x.name,.slice AI x.args.length cI,.int .i64 x.jmp,.int .i64 x.hnd] 59:=by rw[←hW];exact Box.new _ _ _
 clear hW;have y2:=bc.cell 2 rfl;have yl:=bc.lt
 go_wp2_with fail
 refine(HR.out _ hb1).mono ?_;rintro e W2 ⟨rfl,hb2⟩;have H2:=H.mono (za hb1 hb2);have bc2:=bc.mono hb2;clear y2 yl bc
 go_upto_region 2 with fail
 generalize hW:World.alloc _ _=W3 at *
 have hb23:Below W2.heap.size W2 W3:=by rw[←hW];exact(by repeat(first|assumption|exact v9r|apply zc|apply zd|apply zg|apply ze|apply zi))
 have bx:Box W3 W2.heap.size [.int .i64 3,.int .i64 (j:Int),.int .i64 v3] 63:=by rw[←hW];exact Box.new _ _ _
 clear hW;have hb3:=za (za hb1 hb2) hb23;have H3:=H2.mono hb23;have bc3:=bc2.mono hb23;clear H2 bc2 hb1 hb2 hb23;have z0:=bx.cell 0 rfl;have zl:=bx.lt
 go_upto_region 4 with fail
 refine zt 8 (by kernel_rfl) (by kernel_rfl) ?_;have H4:=H3.mono (zd (v9r));have bc4:=bc3.drew;have bx4:=bx.drew;have hb4:=hb3.drew;clear z0 zl H3 bc3 bx hb3;generalize W3.drew=W4 at *
 obtain⟨b,hbb,hlk⟩:=H4.oj.lookL hj (yY (by omega) (by omega));have q5:=H4.bm.cell 5 rfl;have ql:=H4.bm.lt;have z1:=bx4.cell 1 rfl;have zl:=bx4.lt;refine RZ.chunkN (f:=1) [0,1,2,3,4,5,6] (by kernel_rfl) ?_
 ((simp only[zo,List.filterMap,List.getElem?_toArray,List.getElem?_cons_zero,List.getElem?_cons_succ]);(repeat(go_big_quiet_step (fail)));refine wpQuiet_nil ?_)
 clear hlk q5 ql z1 zl bx4;refine RZ.single 7 rfl (by kernel_rfl) (by omega) ?_;intro K hK
 go_wp2_with fail
 refine hK _ _ (zc (v9r)) ?_;clear hK K
 (refine RZ.tail (by kernel_rfl) ?_;(simp only[List.drop_succ_cons,List.drop_zero]))
 go_upto_region 5 with fail
 generalize hW:World.alloc W4 _=W6 at *
 have hb46:Below W4.heap.size W4 W6:=by rw[←hW];exact(by repeat(first|assumption|exact v9r|apply zc|apply zd|apply zg|apply ze|apply zi))
 have bz:Box W6 W4.heap.size [.string m.objs[j].cls,.map (some b)] 177:=by rw[←hW];exact Box.new _ _ _
 clear hW;have H6:=H4.mono hb46;have bc6:=bc4.mono hb46;have hb6:=za hb4 hb46;clear H4 bc4 hb4 hb46;have y0:=bc6.cell 0 rfl;have y6:=bc6.cell 6 rfl;have yl:=bc6.lt;obtain⟨nF,fm,hfm,hfmn,hval⟩:=H6.oj.flds j m.objs[j] b (List.getElem?_eq_getElem hj) hbb;replace hval:=v9h hval
 go_upto_region 6 with fail
 refine zt 9 (by kernel_rfl) (by kernel_rfl) ?_;have H7:=H6.mono (zd (v9r));have bc7:=bc6.drew;have bz7:=bz.drew;have hfm7:MapE qI W6.drew b nF fm:=hfm.mono (zd (v9r));have hb7:=hb6.drew;clear y0 y6 yl H6 bc6 bz hfm hb6;generalize W6.drew=W7 at *
 have HQ:=v9h (HRB.out _ hb7);have z1:=bz7.cell 1 rfl;have zl:=bz7.lt;have y3:=bc7.cell 3 rfl;have y6:=bc7.cell 6 rfl;have yl:=bc7.lt;refine RZ.chunkN (f:=1) [0,1,2,3,4,5,6,7] (by kernel_rfl) ?_
 ((simp only[zo,List.filterMap,List.getElem?_toArray,List.getElem?_cons_zero,List.getElem?_cons_succ]);(repeat(go_big_quiet_step (fail)));refine wpQuiet_nil ?_)
 refine RZ.single 8 rfl (by kernel_rfl) (by omega) ?_;intro K hK
 go_wp2_with fail
 refine HQ.out.mono ?_;rintro e W8 ⟨rfl,hb8⟩
 go_wp2_with fail
 refine hK _ _ hb8 ?_;have H8:=H7.mono hb8;have hfm8:=hfm7.mono hb8;clear hK K z1 zl y3 y6 yl H7 bc7 bz7 hfm7 HQ HRB hb8 hb7
 (refine RZ.tail (by kernel_rfl) ?_;(simp only[List.drop_succ_cons,List.drop_zero]))
 go_upto_region 12 with(at_mapUpdate;refine kf qI rfl (.tmp 35) (.tmp 37) (.tmp 42) rfl b nF fm rfl hfm8 (by unfold maxLen;omega) x.name (b1,b2,b3) rfl rfl hnm ?_;intro W9 hm9 hg9)
 have H9:=H8.fld (List.getElem?_eq_getElem hj) hbb hfm8 hfmn hval.out hm9 hg9;clear H8 hfm8 hm9 hg9;rw[abd];obtain⟨g,q,hgs,hfr⟩:=H9.frm hf;have f1c:=hfr.cell (j:=1) (u:= .int .i64 (f.at_:Int)) rfl;have ff:=fun i=>hfr.freeF i
 have fl:=hfr.ltF.2
 go_wp2_with fail
 refine bodyPost_end (results_none rfl _ _ _) rfl ?_;exact⟨rfl,_,_,_,_,_,H9.at hf (f.at_+1)⟩
end Go.Proofs.YtmhdambkchlilaaGreatDoor
