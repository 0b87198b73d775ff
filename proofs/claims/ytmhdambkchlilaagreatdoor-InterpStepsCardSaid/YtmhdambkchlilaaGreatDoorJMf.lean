/- Chapter 15: execute of package interp, operation by operation (for any unit). Chapter 15: execute of package interp, operation by operation (catch) (for any unit). Chapter 15: execute of package interp, operation by operation (calls, jumps, throws) (for any unit). Chapter 15: execute of package interp is the plain step (for any unit without an error). -/
import Derived.Test.YtmhdambkchlilaaGreatDoorJMe
namespace Go.Proofs.YtmhdambkchlilaaGreatDoor
open Go.RowKit
set_option linter.unusedVariables false
set_option maxRecDepth 100000
set_option maxHeartbeats 8000000
def MNf(u:Unt)(w0:World)(gm:Nat)(AC AF:Option Addr)(cC cF gF rl cFr b4 b5 k:Nat)(m:Mch)(w:World):Prop:=∃(vI vO:Value) (gs bs:List Nat),MSt u w0 w gm AC AF cC cF vI (.slice (some ⟨gF,0,none⟩) (rl+1) cFr) vO b4 b5 k m gs bs
theorem MSt.more{u:Unt}{w0 w:World}{gm:Nat}{AC AF:Option Addr}{cC cF:Nat}{vI vF vO:Value}{b4 b5 k:Nat}{m:Mch}{gs bs:List Nat}(H:MSt u w0 w gm AC AF cC cF vI vF vO b4 b5 k m gs bs){k':Nat}(h:k≤k'):MSt u w0 w gm AC AF cC cF vI vF vO b4 b5 k' m gs bs:=
 ⟨H.un,H.hw,H.hB,H.bm,H.fr,H.ob,H.oj.more h,H.si,H.inp,H.dis,H.mlo,by have:=H.md;omega,Nat.le_trans H.oc h⟩
theorem MNx.more{u:Unt}{w0 w:World}{gm:Nat}{AC AF:Option Addr}{cC cF b4 b5 k:Nat}{m:Mch}(H:MNx u w0 gm AC AF cC cF b4 b5 k m w){k':Nat}(h:k≤k'):MNx u w0 gm AC AF cC cF b4 b5 k' m w:=by
 obtain⟨a,b,c,d,e,H⟩:=H;exact⟨a,b,c,d,e,H.more h⟩
theorem jo(u:Unt)(w0 w:World)(gm:Nat)(AC AF:Option Addr)(cC cF:Nat)(vI vO:Value)(gF cFr b4 b5 k:Nat)(m:Mch)(gs bs:List Nat)(f:Frm)(r:List Frm)(x:Ins)(H:MSt u w0 w gm AC AF cC cF vI (.slice (some ⟨gF,0,none⟩) (r.length+1) cFr) vO b4 b5 k m gs bs)(hf:m.frs=f::r)(hrl:r.length≤64)(hfn:f.fn<u.funcs.length)(hat:f.at_<(zb u f.fn).code.length)(hx:zh (zb u f.fn) f.at_=x)(hop:x.op<7∨15<x.op)(k':Nat)(m1:Mch)(f1:Frm)(hf1:m1.frs=f1::r)(hat1:f1.at_≤100000)(HC:Hid (∀(AI:Option Addr) (cI:Nat) (W:World),Below w.heap.size w W→x.args.length≤cI→Sl Lay.int W AI x.args→Calls Tryz.prog 96 #[.pointer (some ⟨gm,0,none⟩),.pointer (some ⟨gF,r.length*8,none⟩),.agg #[.int .i64 x.op,.int .i64 x.dst,.int .i64 x.a,.int .i64 x.b,.int .i64 x.n,.string x.cls,.string x.name,.slice AI x.args.length cI,.int .i64 x.jmp,.int .i64 x.hnd]] W fun e w'=>e = .returned (.tuple #[])∧MNf u w0 gm AC AF cC cF gF r.length cFr b4 b5 k' m1 w')) :
  Calls Tryz.prog 46 #[.pointer (some ⟨gm,0,none⟩)] w fun e w'=>e = .returned (.tuple #[])∧MNx u w0 gm AC AF cC cF b4 b5 k' { m1 with frs:={ f1 with at_:=f1.at_+1}::r} w':=by
 have t9:(x.op==9)=false:=by rw[beq_eq_false_iff_ne];omega
 have t10:(x.op==10)=false:=by rw[beq_eq_false_iff_ne];omega
 have t11:(x.op==11)=false:=by rw[beq_eq_false_iff_ne];omega
 have t12:(x.op==12)=false:=by rw[beq_eq_false_iff_ne];omega
 have t13:(x.op==13)=false:=by rw[beq_eq_false_iff_ne];omega
 have t14:(x.op==14)=false:=by rw[beq_eq_false_iff_ne];omega
 have t15:(x.op==15)=false:=by rw[beq_eq_false_iff_ne];omega
 have t7:(x.op==7)=false:=by rw[beq_eq_false_iff_ne];omega
 have t8:(x.op==8)=false:=by rw[beq_eq_false_iff_ne];omega
 clear hop;have HT:=v9h (yT w gm gF r.length cFr H.bm.lt (by omega) (H.bm.cell 6 rfl))
 go_enter Tryz.func46,Tryz.ntmps46
 go_wp2_with fail
 refine HT.out.mono ?_;rintro e w1 ⟨rfl,hb1⟩;have H1:=H.mono hb1;clear HT H;obtain⟨g,q,hgs,hfr⟩:=H1.frm hf;have hat':f.at_<u.funcs[f.fn].code.length:=by rw[←zv hfn];exact hat
 have HI:=v9h (yZ u.funcs AF cF w1 gm gF (r.length*8) f.fn f.at_ hfn hat' H1.funs H1.bm.lt hfr.ltF.2 (H1.bm.cell 1 rfl) (by have:=hfr.cell (j:=0) (u:= .int .i64 (f.fn:Int)) rfl;rwa[Nat.add_zero] at this) (hfr.cell (j:=1) rfl))
 have hyx:u.funcs[f.fn].code[f.at_]=zh (zb u f.fn) f.at_:=by
  rw[zQ hat]
  congr 1
  rw[zv hfn]
 rw[hyx,hx] at HI;clear hyx hat' hfr
 go_wp2_with fail
 refine HI.out.mono ?_;rintro e w2 ⟨hRI,hb2⟩;obtain⟨AI,cI,rfl,hcI,hsI⟩:=hRI;have H2:=H1.mono hb2;have hb12:=za hb1 hb2;clear HI H1 hb1 hb2
 go_upto_region 2 with fail
 generalize hW:World.alloc _ _=W3 at *
 have hb3:Below w2.heap.size w2 W3:=by rw[←hW];exact(by repeat(first|assumption|exact v9r|apply zc|apply zd|apply zg|apply ze|apply zi))
 have bc:Box W3 w2.heap.size [.int .i64 x.op,.int .i64 x.dst,.int .i64 x.a,.int .i64 x.b,.int .i64 x.n,.string x.cls,.string x.name,.slice AI x.args.length cI,.int .i64 x.jmp,.int .i64 x.hnd] 59:=by rw[←hW];exact Box.new _ _ _
 clear hW;have H3:=H2.mono hb3;have hsI3:=hsI.mono hb3;have hb13:=za hb12 hb3;clear H2 hsI hb12 hb3;have y0:=bc.cell 0 rfl;have y1:=bc.cell 1 rfl;have y2:=bc.cell 2 rfl;have y3:=bc.cell 3 rfl;have y4:=bc.cell 4 rfl;have y5:=bc.cell 5 rfl;have y6:=bc.cell 6 rfl;have y7:=bc.cell 7 rfl;have y8:=bc.cell 8 rfl;have y9:=bc.cell 9 rfl;have yl:=bc.lt;have HA:=v9h (HC.out AI cI W3 hb13 hcI hsI3);clear HC H3
 go_wp2_with fail
 refine HA.out.mono ?_;rintro e W4 ⟨rfl,vI',vO',gs',bs',H4⟩;clear HA y0 y1 y2 y3 y4 y5 y6 y7 y8 y9 yl bc;obtain⟨g4,q4,hgs4,hfr4⟩:=H4.frm hf1;have f1c:=hfr4.cell (j:=1) (u:= .int .i64 (f1.at_:Int)) rfl;have ff:=fun i=>hfr4.freeF i
 have fl:=hfr4.ltF.2
 go_wp2_with fail
 refine bodyPost_end (results_none rfl _ _ _) rfl ?_;exact⟨rfl,_,_,_,_,_,H4.at hf1 (f1.at_+1)⟩
theorem agU(u:Unt)(w0 w:World)(gm:Nat)(AC AF:Option Addr)(cC cF:Nat)(vI vO:Value)(gF cFr b4 b5 k:Nat)(m:Mch)(gs bs:List Nat)(f:Frm)(r:List Frm)(x:Ins)(H:MSt u w0 w gm AC AF cC cF vI (.slice (some ⟨gF,0,none⟩) (r.length+1) cFr) vO b4 b5 k m gs bs)(hf:m.frs=f::r)(hrl:r.length≤64)(hfn:f.fn<u.funcs.length)(hat:f.at_<(zb u f.fn).code.length)(hx:zh (zb u f.fn) f.at_=x)(hop:x.op=7)(k':Nat)(m':Mch)(HC:Hid (∀(AI:Option Addr) (cI:Nat) (W:World),Below w.heap.size w W→x.args.length≤cI→Sl Lay.int W AI x.args→Calls Tryz.prog 95 #[.pointer (some ⟨gm,0,none⟩),.pointer (some ⟨gF,r.length*8,none⟩),.agg #[.int .i64 x.op,.int .i64 x.dst,.int .i64 x.a,.int .i64 x.b,.int .i64 x.n,.string x.cls,.string x.name,.slice AI x.args.length cI,.int .i64 x.jmp,.int .i64 x.hnd]] W fun e w'=>e = .returned (.tuple #[])∧MNx u w0 gm AC AF cC cF b4 b5 k' m' w')) :
  Calls Tryz.prog 46 #[.pointer (some ⟨gm,0,none⟩)] w fun e w'=>e = .returned (.tuple #[])∧MNx u w0 gm AC AF cC cF b4 b5 k' m' w':=by
 have t9:(x.op==9)=false:=by rw[hop];rfl
 have t10:(x.op==10)=false:=by rw[hop];rfl
 have t11:(x.op==11)=false:=by rw[hop];rfl
 have t12:(x.op==12)=false:=by rw[hop];rfl
 have t13:(x.op==13)=false:=by rw[hop];rfl
 have t14:(x.op==14)=false:=by rw[hop];rfl
 have t15:(x.op==15)=false:=by rw[hop];rfl
 have t7:(x.op==7)=true:=by rw[hop];rfl
 clear hop;have HT:=v9h (yT w gm gF r.length cFr H.bm.lt (by omega) (H.bm.cell 6 rfl))
 go_enter Tryz.func46,Tryz.ntmps46
 go_wp2_with fail
 refine HT.out.mono ?_;rintro e w1 ⟨rfl,hb1⟩;have H1:=H.mono hb1;clear HT H;obtain⟨g,q,hgs,hfr⟩:=H1.frm hf;have hat':f.at_<u.funcs[f.fn].code.length:=by rw[←zv hfn];exact hat
 have HI:=v9h (yZ u.funcs AF cF w1 gm gF (r.length*8) f.fn f.at_ hfn hat' H1.funs H1.bm.lt hfr.ltF.2 (H1.bm.cell 1 rfl) (by have:=hfr.cell (j:=0) (u:= .int .i64 (f.fn:Int)) rfl;rwa[Nat.add_zero] at this) (hfr.cell (j:=1) rfl))
 have hyx:u.funcs[f.fn].code[f.at_]=zh (zb u f.fn) f.at_:=by
  rw[zQ hat]
  congr 1
  rw[zv hfn]
 rw[hyx,hx] at HI;clear hyx hat' hfr
 go_wp2_with fail
 refine HI.out.mono ?_;rintro e w2 ⟨hRI,hb2⟩;obtain⟨AI,cI,rfl,hcI,hsI⟩:=hRI;have H2:=H1.mono hb2;have hb12:=za hb1 hb2;clear HI H1 hb1 hb2
 go_upto_region 2 with fail
 generalize hW:World.alloc _ _=W3 at *
 have hb3:Below w2.heap.size w2 W3:=by rw[←hW];exact(by repeat(first|assumption|exact v9r|apply zc|apply zd|apply zg|apply ze|apply zi))
 have bc:Box W3 w2.heap.size [.int .i64 x.op,.int .i64 x.dst,.int .i64 x.a,.int .i64 x.b,.int .i64 x.n,.string x.cls,.string x.name,.slice AI x.args.length cI,.int .i64 x.jmp,.int .i64 x.hnd] 59:=by rw[←hW];exact Box.new _ _ _
 clear hW;have H3:=H2.mono hb3;have hsI3:=hsI.mono hb3;have hb13:=za hb12 hb3;clear H2 hsI hb12 hb3;have y0:=bc.cell 0 rfl;have y1:=bc.cell 1 rfl;have y2:=bc.cell 2 rfl;have y3:=bc.cell 3 rfl;have y4:=bc.cell 4 rfl;have y5:=bc.cell 5 rfl;have y6:=bc.cell 6 rfl;have y7:=bc.cell 7 rfl;have y8:=bc.cell 8 rfl;have y9:=bc.cell 9 rfl;have yl:=bc.lt;have HA:=v9h (HC.out AI cI W3 hb13 hcI hsI3);clear HC H3
 go_wp2_with fail
 refine HA.out.mono ?_;rintro e W4 ⟨rfl,hQ⟩;clear HA y0 y1 y2 y3 y4 y5 y6 y7 y8 y9 yl bc
 go_wp2_with fail
 refine bodyPost_end (results_none rfl _ _ _) rfl ?_;exact⟨rfl,hQ⟩
theorem agV(u:Unt)(w0 w:World)(gm:Nat)(AC AF:Option Addr)(cC cF:Nat)(vI vO:Value)(gF cFr b4 b5 k:Nat)(m:Mch)(gs bs:List Nat)(f:Frm)(r:List Frm)(x:Ins)(H:MSt u w0 w gm AC AF cC cF vI (.slice (some ⟨gF,0,none⟩) (r.length+1) cFr) vO b4 b5 k m gs bs)(hf:m.frs=f::r)(hrl:r.length≤64)(hfn:f.fn<u.funcs.length)(hat:f.at_<(zb u f.fn).code.length)(hx:zh (zb u f.fn) f.at_=x)(hop:x.op=8)(k':Nat)(m':Mch)(HC:Hid (∀(AI:Option Addr) (cI:Nat) (W:World),Below w.heap.size w W→x.args.length≤cI→Sl Lay.int W AI x.args→Calls Tryz.prog 95 #[.pointer (some ⟨gm,0,none⟩),.pointer (some ⟨gF,r.length*8,none⟩),.agg #[.int .i64 x.op,.int .i64 x.dst,.int .i64 x.a,.int .i64 x.b,.int .i64 x.n,.string x.cls,.string x.name,.slice AI x.args.length cI,.int .i64 x.jmp,.int .i64 x.hnd]] W fun e w'=>e = .returned (.tuple #[])∧MNx u w0 gm AC AF cC cF b4 b5 k' m' w')) :
  Calls Tryz.prog 46 #[.pointer (some ⟨gm,0,none⟩)] w fun e w'=>e = .returned (.tuple #[])∧MNx u w0 gm AC AF cC cF b4 b5 k' m' w':=by
 have t9:(x.op==9)=false:=by rw[hop];rfl
 have t10:(x.op==10)=false:=by rw[hop];rfl
 have t11:(x.op==11)=false:=by rw[hop];rfl
 have t12:(x.op==12)=false:=by rw[hop];rfl
 have t13:(x.op==13)=false:=by rw[hop];rfl
 have t14:(x.op==14)=false:=by rw[hop];rfl
 have t15:(x.op==15)=false:=by rw[hop];rfl
 have t7:(x.op==7)=false:=by rw[hop];rfl
 have t8:(x.op==8)=true:=by rw[hop];rfl
 clear hop;have HT:=v9h (yT w gm gF r.length cFr H.bm.lt (by omega) (H.bm.cell 6 rfl))
 go_enter Tryz.func46,Tryz.ntmps46
 go_wp2_with fail
 refine HT.out.mono ?_;rintro e w1 ⟨rfl,hb1⟩;have H1:=H.mono hb1;clear HT H;obtain⟨g,q,hgs,hfr⟩:=H1.frm hf;have hat':f.at_<u.funcs[f.fn].code.length:=by rw[←zv hfn];exact hat
 have HI:=v9h (yZ u.funcs AF cF w1 gm gF (r.length*8) f.fn f.at_ hfn hat' H1.funs H1.bm.lt hfr.ltF.2 (H1.bm.cell 1 rfl) (by have:=hfr.cell (j:=0) (u:= .int .i64 (f.fn:Int)) rfl;rwa[Nat.add_zero] at this) (hfr.cell (j:=1) rfl))
 have hyx:u.funcs[f.fn].code[f.at_]=zh (zb u f.fn) f.at_:=by
  rw[zQ hat]
  congr 1
  rw[zv hfn]
 rw[hyx,hx] at HI;clear hyx hat' hfr
 go_wp2_with fail
 refine HI.out.mono ?_;rintro e w2 ⟨hRI,hb2⟩;obtain⟨AI,cI,rfl,hcI,hsI⟩:=hRI;have H2:=H1.mono hb2;have hb12:=za hb1 hb2;clear HI H1 hb1 hb2
 go_upto_region 2 with fail
 generalize hW:World.alloc _ _=W3 at *
 have hb3:Below w2.heap.size w2 W3:=by rw[←hW];exact(by repeat(first|assumption|exact v9r|apply zc|apply zd|apply zg|apply ze|apply zi))
 have bc:Box W3 w2.heap.size [.int .i64 x.op,.int .i64 x.dst,.int .i64 x.a,.int .i64 x.b,.int .i64 x.n,.string x.cls,.string x.name,.slice AI x.args.length cI,.int .i64 x.jmp,.int .i64 x.hnd] 59:=by rw[←hW];exact Box.new _ _ _
 clear hW;have H3:=H2.mono hb3;have hsI3:=hsI.mono hb3;have hb13:=za hb12 hb3;clear H2 hsI hb12 hb3;have y0:=bc.cell 0 rfl;have y1:=bc.cell 1 rfl;have y2:=bc.cell 2 rfl;have y3:=bc.cell 3 rfl;have y4:=bc.cell 4 rfl;have y5:=bc.cell 5 rfl;have y6:=bc.cell 6 rfl;have y7:=bc.cell 7 rfl;have y8:=bc.cell 8 rfl;have y9:=bc.cell 9 rfl;have yl:=bc.lt;have HA:=v9h (HC.out AI cI W3 hb13 hcI hsI3);clear HC H3
 go_wp2_with fail
 refine HA.out.mono ?_;rintro e W4 ⟨rfl,hQ⟩;clear HA y0 y1 y2 y3 y4 y5 y6 y7 y8 y9 yl bc
 go_wp2_with fail
 refine bodyPost_end (results_none rfl _ _ _) rfl ?_;exact⟨rfl,hQ⟩
theorem aiO(u:Unt)(w0 w:World)(gm:Nat)(AC AF:Option Addr)(cC cF:Nat)(vI vO:Value)(gF cFr b4 b5 k:Nat)(m:Mch)(gs bs:List Nat)(f:Frm)(r:List Frm)(x:Ins)(H:MSt u w0 w gm AC AF cC cF vI (.slice (some ⟨gF,0,none⟩) (r.length+1) cFr) vO b4 b5 k m gs bs)(hf:m.frs=f::r)(hrl:r.length≤64)(hfn:f.fn<u.funcs.length)(hat:f.at_<(zb u f.fn).code.length)(hx:zh (zb u f.fn) f.at_=x)(hop:x.op=10)(k':Nat)(m':Mch)(HC:Hid (∀(AI:Option Addr) (cI:Nat) (W:World),Below w.heap.size w W→x.args.length≤cI→Sl Lay.int W AI x.args→Calls Tryz.prog 91 #[.pointer (some ⟨gm,0,none⟩),.pointer (some ⟨gF,r.length*8,none⟩),.agg #[.int .i64 x.op,.int .i64 x.dst,.int .i64 x.a,.int .i64 x.b,.int .i64 x.n,.string x.cls,.string x.name,.slice AI x.args.length cI,.int .i64 x.jmp,.int .i64 x.hnd]] W fun e w'=>e = .returned (.tuple #[])∧MNx u w0 gm AC AF cC cF b4 b5 k' m' w')) :
  Calls Tryz.prog 46 #[.pointer (some ⟨gm,0,none⟩)] w fun e w'=>e = .returned (.tuple #[])∧MNx u w0 gm AC AF cC cF b4 b5 k' m' w':=by
 have t9:(x.op==9)=false:=by rw[hop];rfl
 have t10:(x.op==10)=true:=by rw[hop];rfl
 clear hop;have HT:=v9h (yT w gm gF r.length cFr H.bm.lt (by omega) (H.bm.cell 6 rfl))
 go_enter Tryz.func46,Tryz.ntmps46
 go_wp2_with fail
 refine HT.out.mono ?_;rintro e w1 ⟨rfl,hb1⟩;have H1:=H.mono hb1;clear HT H;obtain⟨g,q,hgs,hfr⟩:=H1.frm hf;have hat':f.at_<u.funcs[f.fn].code.length:=by rw[←zv hfn];exact hat
 have HI:=v9h (yZ u.funcs AF cF w1 gm gF (r.length*8) f.fn f.at_ hfn hat' H1.funs H1.bm.lt hfr.ltF.2 (H1.bm.cell 1 rfl) (by have:=hfr.cell (j:=0) (u:= .int .i64 (f.fn:Int)) rfl;rwa[Nat.add_zero] at this) (hfr.cell (j:=1) rfl))
 have hyx:u.funcs[f.fn].code[f.at_]=zh (zb u f.fn) f.at_:=by
  rw[zQ hat]
  congr 1
  rw[zv hfn]
 rw[hyx,hx] at HI;clear hyx hat' hfr
 go_wp2_with fail
 refine HI.out.mono ?_;rintro e w2 ⟨hRI,hb2⟩;obtain⟨AI,cI,rfl,hcI,hsI⟩:=hRI;have H2:=H1.mono hb2;have hb12:=za hb1 hb2;clear HI H1 hb1 hb2
 go_upto_region 2 with fail
 generalize hW:World.alloc _ _=W3 at *
 have hb3:Below w2.heap.size w2 W3:=by rw[←hW];exact(by repeat(first|assumption|exact v9r|apply zc|apply zd|apply zg|apply ze|apply zi))
 have bc:Box W3 w2.heap.size [.int .i64 x.op,.int .i64 x.dst,.int .i64 x.a,.int .i64 x.b,.int .i64 x.n,.string x.cls,.string x.name,.slice AI x.args.length cI,.int .i64 x.jmp,.int .i64 x.hnd] 59:=by rw[←hW];exact Box.new _ _ _
 clear hW;have H3:=H2.mono hb3;have hsI3:=hsI.mono hb3;have hb13:=za hb12 hb3;clear H2 hsI hb12 hb3;have y0:=bc.cell 0 rfl;have y1:=bc.cell 1 rfl;have y2:=bc.cell 2 rfl;have y3:=bc.cell 3 rfl;have y4:=bc.cell 4 rfl;have y5:=bc.cell 5 rfl;have y6:=bc.cell 6 rfl;have y7:=bc.cell 7 rfl;have y8:=bc.cell 8 rfl;have y9:=bc.cell 9 rfl;have yl:=bc.lt;have HA:=v9h (HC.out AI cI W3 hb13 hcI hsI3);clear HC H3
 go_wp2_with fail
 refine HA.out.mono ?_;rintro e W4 ⟨rfl,hQ⟩;clear HA y0 y1 y2 y3 y4 y5 y6 y7 y8 y9 yl bc
 go_wp2_with fail
 refine bodyPost_end (results_none rfl _ _ _) rfl ?_;exact⟨rfl,hQ⟩
theorem aiP(u:Unt)(w0 w:World)(gm:Nat)(AC AF:Option Addr)(cC cF:Nat)(vI vO:Value)(gF cFr b4 b5 k:Nat)(m:Mch)(gs bs:List Nat)(f:Frm)(r:List Frm)(x:Ins)(H:MSt u w0 w gm AC AF cC cF vI (.slice (some ⟨gF,0,none⟩) (r.length+1) cFr) vO b4 b5 k m gs bs)(hf:m.frs=f::r)(hrl:r.length≤64)(hfn:f.fn<u.funcs.length)(hat:f.at_<(zb u f.fn).code.length)(hx:zh (zb u f.fn) f.at_=x)(hop:x.op=13)(k':Nat)(m':Mch)(HC:Hid (∀(AI:Option Addr) (cI:Nat) (W:World),Below w.heap.size w W→x.args.length≤cI→Sl Lay.int W AI x.args→Calls Tryz.prog 92 #[.pointer (some ⟨gm,0,none⟩),.pointer (some ⟨gF,r.length*8,none⟩),.agg #[.int .i64 x.op,.int .i64 x.dst,.int .i64 x.a,.int .i64 x.b,.int .i64 x.n,.string x.cls,.string x.name,.slice AI x.args.length cI,.int .i64 x.jmp,.int .i64 x.hnd]] W fun e w'=>e = .returned (.tuple #[])∧MNx u w0 gm AC AF cC cF b4 b5 k' m' w')) :
  Calls Tryz.prog 46 #[.pointer (some ⟨gm,0,none⟩)] w fun e w'=>e = .returned (.tuple #[])∧MNx u w0 gm AC AF cC cF b4 b5 k' m' w':=by
 have t9:(x.op==9)=false:=by rw[hop];rfl
 have t10:(x.op==10)=false:=by rw[hop];rfl
 have t11:(x.op==11)=false:=by rw[hop];rfl
 have t12:(x.op==12)=false:=by rw[hop];rfl
 have t13:(x.op==13)=true:=by rw[hop];rfl
 clear hop;have HT:=v9h (yT w gm gF r.length cFr H.bm.lt (by omega) (H.bm.cell 6 rfl))
 go_enter Tryz.func46,Tryz.ntmps46
 go_wp2_with fail
 refine HT.out.mono ?_;rintro e w1 ⟨rfl,hb1⟩;have H1:=H.mono hb1;clear HT H;obtain⟨g,q,hgs,hfr⟩:=H1.frm hf;have hat':f.at_<u.funcs[f.fn].code.length:=by rw[←zv hfn];exact hat
 have HI:=v9h (yZ u.funcs AF cF w1 gm gF (r.length*8) f.fn f.at_ hfn hat' H1.funs H1.bm.lt hfr.ltF.2 (H1.bm.cell 1 rfl) (by have:=hfr.cell (j:=0) (u:= .int .i64 (f.fn:Int)) rfl;rwa[Nat.add_zero] at this) (hfr.cell (j:=1) rfl))
 have hyx:u.funcs[f.fn].code[f.at_]=zh (zb u f.fn) f.at_:=by
  rw[zQ hat]
  congr 1
  rw[zv hfn]
 rw[hyx,hx] at HI;clear hyx hat' hfr
 go_wp2_with fail
 refine HI.out.mono ?_;rintro e w2 ⟨hRI,hb2⟩;obtain⟨AI,cI,rfl,hcI,hsI⟩:=hRI;have H2:=H1.mono hb2;have hb12:=za hb1 hb2;clear HI H1 hb1 hb2
 go_upto_region 2 with fail
 generalize hW:World.alloc _ _=W3 at *
 have hb3:Below w2.heap.size w2 W3:=by rw[←hW];exact(by repeat(first|assumption|exact v9r|apply zc|apply zd|apply zg|apply ze|apply zi))
 have bc:Box W3 w2.heap.size [.int .i64 x.op,.int .i64 x.dst,.int .i64 x.a,.int .i64 x.b,.int .i64 x.n,.string x.cls,.string x.name,.slice AI x.args.length cI,.int .i64 x.jmp,.int .i64 x.hnd] 59:=by rw[←hW];exact Box.new _ _ _
 clear hW;have H3:=H2.mono hb3;have hsI3:=hsI.mono hb3;have hb13:=za hb12 hb3;clear H2 hsI hb12 hb3;have y0:=bc.cell 0 rfl;have y1:=bc.cell 1 rfl;have y2:=bc.cell 2 rfl;have y3:=bc.cell 3 rfl;have y4:=bc.cell 4 rfl;have y5:=bc.cell 5 rfl;have y6:=bc.cell 6 rfl;have y7:=bc.cell 7 rfl;have y8:=bc.cell 8 rfl;have y9:=bc.cell 9 rfl;have yl:=bc.lt;have HA:=v9h (HC.out AI cI W3 hb13 hcI hsI3);clear HC H3
 go_wp2_with fail
 refine HA.out.mono ?_;rintro e W4 ⟨rfl,hQ⟩;clear HA y0 y1 y2 y3 y4 y5 y6 y7 y8 y9 yl bc
 go_wp2_with fail
 refine bodyPost_end (results_none rfl _ _ _) rfl ?_;exact⟨rfl,hQ⟩
theorem aiQ(u:Unt)(w0 w:World)(gm:Nat)(AC AF:Option Addr)(cC cF:Nat)(vI vO:Value)(gF cFr b4 b5 k:Nat)(m:Mch)(gs bs:List Nat)(f:Frm)(r:List Frm)(x:Ins)(H:MSt u w0 w gm AC AF cC cF vI (.slice (some ⟨gF,0,none⟩) (r.length+1) cFr) vO b4 b5 k m gs bs)(hf:m.frs=f::r)(hrl:r.length≤64)(hfn:f.fn<u.funcs.length)(hat:f.at_<(zb u f.fn).code.length)(hx:zh (zb u f.fn) f.at_=x)(hop:x.op=15)(j d:Nat)(v3:Int)(he:f.exc=(3,(j:Int),v3))(hj:j<m.objs.length)(hjl:m.objs.length≤100000)(hjc:zG m.objs[j].cls)(hxd:x.dst=(d:Int))(hd:d<f.vals.length)(hatl:f.at_≤100000)(m':Mch)(hm1:hasS (zx u.classes m.objs[j].cls) x.cls=true→m'={ m with frs:={ f with vals:=f.vals.set d (3,(j:Int),v3),at_:=f.at_+1}::r})
  (HC:Hid (hasS (zx u.classes m.objs[j].cls) x.cls=false→∀W,Below w.heap.size w W→Calls Tryz.prog 93 #[.pointer (some ⟨gm,0,none⟩),.agg #[.int .i64 3,.int .i64 (j:Int),.int .i64 v3]] W fun e w'=>e = .returned (.tuple #[])∧MNx u w0 gm AC AF cC cF b4 b5 k m' w')) :
  Calls Tryz.prog 46 #[.pointer (some ⟨gm,0,none⟩)] w fun e w'=>e = .returned (.tuple #[])∧MNx u w0 gm AC AF cC cF b4 b5 k m' w':=by
 have t9:(x.op==9)=false:=by rw[hop];rfl
 have t10:(x.op==10)=false:=by rw[hop];rfl
 have t11:(x.op==11)=false:=by rw[hop];rfl
 have t12:(x.op==12)=false:=by rw[hop];rfl
 have t13:(x.op==13)=false:=by rw[hop];rfl
 have t14:(x.op==14)=false:=by rw[hop];rfl
 have t15:(x.op==15)=true:=by rw[hop];rfl
 clear hop;replace hxd:=v9h hxd;replace he:=v9h he;have hdI:(d:Int)<(f.vals.length:Int):=by omega
 have HT:=v9h (yT w gm gF r.length cFr H.bm.lt (by omega) (H.bm.cell 6 rfl))
 go_enter Tryz.func46,Tryz.ntmps46
 go_wp2_with fail
 refine HT.out.mono ?_;rintro e w1 ⟨rfl,hb1⟩;have H1:=H.mono hb1;clear HT H;obtain⟨g,q,hgs,hfr⟩:=H1.frm hf;have hat':f.at_<u.funcs[f.fn].code.length:=by rw[←zv hfn];exact hat
 have HI:=v9h (yZ u.funcs AF cF w1 gm gF (r.length*8) f.fn f.at_ hfn hat' H1.funs H1.bm.lt hfr.ltF.2 (H1.bm.cell 1 rfl) (by have:=hfr.cell (j:=0) (u:= .int .i64 (f.fn:Int)) rfl;rwa[Nat.add_zero] at this) (hfr.cell (j:=1) rfl))
 have hyx:u.funcs[f.fn].code[f.at_]=zh (zb u f.fn) f.at_:=by
  rw[zQ hat]
  congr 1
  rw[zv hfn]
 rw[hyx,hx] at HI;clear hyx hat' hfr
 go_wp2_with fail
 refine HI.out.mono ?_;rintro e w2 ⟨hRI,hb2⟩;obtain⟨AI,cI,rfl,hcI,hsI⟩:=hRI;have H2:=H1.mono hb2;have hb12:=za hb1 hb2;clear HI H1 hb1 hb2
 go_upto_region 2 with fail
 generalize hW:World.alloc _ _=W3 at *
 have hb3:Below w2.heap.size w2 W3:=by rw[←hW];exact(by repeat(first|assumption|exact v9r|apply zc|apply zd|apply zg|apply ze|apply zi))
 have bc:Box W3 w2.heap.size [.int .i64 x.op,.int .i64 x.dst,.int .i64 x.a,.int .i64 x.b,.int .i64 x.n,.string x.cls,.string x.name,.slice AI x.args.length cI,.int .i64 x.jmp,.int .i64 x.hnd] 59:=by rw[←hW];exact Box.new _ _ _
 clear hW;have H3:=H2.mono hb3;have hsI3:=hsI.mono hb3;have hb13:=za hb12 hb3;clear H2 hsI hb12 hb3;have y0:=bc.cell 0 rfl;have yl:=bc.lt
 go_upto_region 23 with fail
 refine zt 20 (by kernel_rfl) (by kernel_rfl) ?_;have H4:=H3.mono (zd (v9r));have bc4:=bc.drew;have hb4:=hb13.drew;clear y0 yl H3 bc hb13 hsI3;generalize W3.drew=W4 at *
 obtain⟨b,hbb,hlk⟩:=H4.oj.lookL hj (yY (by omega) (by omega));have hof:=afg;obtain⟨g4,q4,hgs4,hfr4⟩:=H4.frm hf;obtain⟨sb,hsb⟩:∃sb,hasS (zx u.classes m.objs[j].cls) x.cls=sb:=⟨_,rfl⟩
 have HF:=v9h (acr AC cC u.classes m.objs[j].cls x.cls W4 H4.un.hl H4.un.hcc H4.clss H4.un.hok.names hjc);rw[hsb] at HF HC hm1;have q0:=H4.bm.cell 0 rfl;have q5:=H4.bm.cell 5 rfl;have ql:=H4.bm.lt;have f6:=hfr4.cell (j:=6) (u:= .int .i64 f.exc.2.1) rfl;rw[he.out] at f6;have fl:=hfr4.ltF.2;have y5:=bc4.cell 5 rfl;have yl:=bc4.lt;refine RZ.chunkN (f:=2) [0,1,2,3,4,5,6,7,8,9,10,11,12,13,14,15,16,17] (by kernel_rfl) ?_
 ((simp only[zo,List.filterMap,List.getElem?_toArray,List.getElem?_cons_zero,List.getElem?_cons_succ]);(repeat(go_big_quiet_step (fail)));refine wpQuiet_nil ?_)
 refine RZ.single 18 rfl (by kernel_rfl) (by omega) ?_;intro K hK
 go_wp2_with fail
 refine HF.out.mono ?_;rintro e W5 ⟨rfl,hb5⟩
 go_wp2_with fail
 refine hK _ _ hb5 ?_;have H5:=H4.mono hb5;have bc5:=bc4.mono hb5;have hb5:=za hb4 hb5;clear hK K q0 q5 ql f6 fl y5 yl hfr4 H4 bc4 hb4 HF hlk hof;refine RZ.chunkN (f:=0) [19] (by kernel_rfl) ?_
 ((simp only[zo,List.filterMap,List.getElem?_toArray,List.getElem?_cons_zero,List.getElem?_cons_succ]);(repeat(go_big_quiet_step (fail)));refine wpQuiet_nil ?_)
 (refine RZ.done (by kernel_rfl) (by kernel_rfl) ?_)
 obtain⟨g5,q5,hgs5,hfr5⟩:=H5.frm hf;have f5:=hfr5.cell (j:=5) (u:= .int .i64 f.exc.1) rfl;have f6:=hfr5.cell (j:=6) (u:= .int .i64 f.exc.2.1) rfl;have f7:=hfr5.cell (j:=7) (u:= .int .i64 f.exc.2.2) rfl;rw[he.out] at f5 f6 f7;have fl:=hfr5.ltF.2
 cases sb with
 |false=>
  have HA:=v9h (HC.out rfl _ hb5);clear HC
  go_wp2_with fail
  refine HA.out.mono ?_;rintro e W6 ⟨rfl,hQ⟩
  go_wp2_with fail
  refine bodyPost_ret (results_none rfl _ _ _) rfl ?_;exact⟨rfl,hQ⟩
 |true=>
  have hM:=v9h (hm1 rfl);clear HC hm1
  go_upto_region 25 with fail
  refine zt 11 (by kernel_rfl) (by kernel_rfl) ?_;have H6:=H5.mono (zd (v9r));have bc6:=bc5.drew;clear f5 f6 f7 fl hfr5 H5 bc5;generalize W5.drew=W6 at *
  obtain⟨g6,q6,rfl,hfr6⟩:=H6.frm hf;have f4:=hfr6.cell (j:=4) (u:= .slice (some ⟨g6,0,none⟩) f.vals.length f.vals.length) rfl;have f5:=hfr6.cell (j:=5) (u:= .int .i64 f.exc.1) rfl;have f6:=hfr6.cell (j:=6) (u:= .int .i64 f.exc.2.1) rfl;have f7:=hfr6.cell (j:=7) (u:= .int .i64 f.exc.2.2) rfl;rw[he.out] at f5 f6 f7;have fl:=hfr6.ltF.2;have y1:=bc6.cell 1 rfl;rw[hxd.out] at y1;have yl:=bc6.lt;refine RZ.chunkN (f:=0) [0,1,2,3,4,5,6,7,8,9,10] (by kernel_rfl) ?_
  ((simp only[zo,List.filterMap,List.getElem?_toArray,List.getElem?_cons_zero,List.getElem?_cons_succ]);(repeat(go_big_quiet_step (fail)));refine wpQuiet_nil ?_)
  (refine RZ.tail (by kernel_rfl) ?_;(simp only[List.drop_succ_cons,List.drop_zero]))
  clear f4 f5 f6 f7 fl y1 yl bc6;obtain⟨⟨c0,c1,c2⟩,vf,vl⟩:=hfr6.valCells hd
  go_upto_region 26 with fail
  clear c0 c1 c2 vf vl hfr6;have H7:=H6.val hf rfl hd 3 (j:Int) v3;clear H6;generalize World.setCell _ _ _=W7 at *
  obtain⟨g7,q7,hgs7,hfr7⟩:=H7.frm (f:={ f with vals:=f.vals.set d (3,(j:Int),v3)}) (r:=r) rfl;have f1c:=hfr7.cell (j:=1) (u:= .int .i64 (f.at_:Int)) rfl;have ff:=fun i=>hfr7.freeF i
  have fl:=hfr7.ltF.2
  go_wp2_with fail
  refine bodyPost_end (results_none rfl _ _ _) rfl ?_;rw[hM.out];exact⟨rfl,_,_,_,_,_,H7.at (f:={ f with vals:=f.vals.set d (3,(j:Int),v3)}) (r:=r) rfl (f.at_+1)⟩
theorem aiR(u:Unt)(w0 w:World)(gm:Nat)(AC AF:Option Addr)(cC cF:Nat)(vI vO:Value)(gF cFr b4 b5 k:Nat)(m:Mch)(gs bs:List Nat)(f:Frm)(r:List Frm)(x:Ins)(H:MSt u w0 w gm AC AF cC cF vI (.slice (some ⟨gF,0,none⟩) (r.length+1) cFr) vO b4 b5 k m gs bs)(hf:m.frs=f::r)(hrl:r.length≤64)(hfn:f.fn<u.funcs.length)(hat:f.at_<(zb u f.fn).code.length)(hx:zh (zb u f.fn) f.at_=x)(hop:x.op=9)(v:Vl)(HR:Hid (∀W,Below w.heap.size w W→Calls Tryz.prog 90 #[.pointer (some ⟨gm,0,none⟩),.pointer (some ⟨gF,r.length*8,none⟩),.int .i64 x.a] W fun e w'=>e = .returned (vlV v)∧Below W.heap.size W w'))(hv:v.1≠3) :
  Calls Tryz.prog 46 #[.pointer (some ⟨gm,0,none⟩)] w fun e w'=>e = .returned (.tuple #[])∧MNx u w0 gm AC AF cC cF b4 b5 k { m with en:=3} w':=by
 obtain⟨v1,v2,v3⟩:=v;rw[show vlV (v1,v2,v3) = .agg #[.int .i64 v1,.int .i64 v2,.int .i64 v3] from rfl] at HR;have hv':(v1 != 3)=true:=by rw[bne_iff_ne];exact hv
 clear hv;have hvk:=fun W=>aej v1 v2 v3 W
 have t9:(x.op==9)=true:=by rw[hop];rfl
 clear hop;have HT:=v9h (yT w gm gF r.length cFr H.bm.lt (by omega) (H.bm.cell 6 rfl))
 go_enter Tryz.func46,Tryz.ntmps46
 go_wp2_with fail
 refine HT.out.mono ?_;rintro e w1 ⟨rfl,hb1⟩;have H1:=H.mono hb1;clear HT H;obtain⟨g,q,hgs,hfr⟩:=H1.frm hf;have hat':f.at_<u.funcs[f.fn].code.length:=by rw[←zv hfn];exact hat
 have HI:=v9h (yZ u.funcs AF cF w1 gm gF (r.length*8) f.fn f.at_ hfn hat' H1.funs H1.bm.lt hfr.ltF.2 (H1.bm.cell 1 rfl) (by have:=hfr.cell (j:=0) (u:= .int .i64 (f.fn:Int)) rfl;rwa[Nat.add_zero] at this) (hfr.cell (j:=1) rfl))
 have hyx:u.funcs[f.fn].code[f.at_]=zh (zb u f.fn) f.at_:=by
  rw[zQ hat]
  congr 1
  rw[zv hfn]
 rw[hyx,hx] at HI;clear hyx hat' hfr
 go_wp2_with fail
 refine HI.out.mono ?_;rintro e w2 ⟨hRI,hb2⟩;obtain⟨AI,cI,rfl,hcI,hsI⟩:=hRI;have H2:=H1.mono hb2;have hb12:=za hb1 hb2;clear HI H1 hb1 hb2
 go_upto_region 2 with fail
 generalize hW:World.alloc _ _=W3 at *
 have hb3:Below w2.heap.size w2 W3:=by rw[←hW];exact(by repeat(first|assumption|exact v9r|apply zc|apply zd|apply zg|apply ze|apply zi))
 have bc:Box W3 w2.heap.size [.int .i64 x.op,.int .i64 x.dst,.int .i64 x.a,.int .i64 x.b,.int .i64 x.n,.string x.cls,.string x.name,.slice AI x.args.length cI,.int .i64 x.jmp,.int .i64 x.hnd] 59:=by rw[←hW];exact Box.new _ _ _
 clear hW;have H3:=H2.mono hb3;have hsI3:=hsI.mono hb3;have hb13:=za hb12 hb3;clear H2 hsI hb12 hb3;have y0:=bc.cell 0 rfl;have y2:=bc.cell 2 rfl;have yl:=bc.lt;have HQ:=v9h (HR.out _ hb13);clear HR
 go_wp2_with fail
 refine HQ.out.mono ?_;rintro e W4 ⟨rfl,hb4⟩;have H4:=H3.mono hb4;clear HQ H3 hb4 y0 y2 yl bc;have q9:=H4.bm.cell 9 rfl;have qf:=fun i=>H4.bm.free i
 have ql:=H4.bm.lt
 go_wp2_with fail
 refine bodyPost_ret (results_none rfl _ _ _) rfl ?_;exact⟨rfl,_,_,_,_,_,H4.setEn 3⟩
theorem ajo(u:Unt)(w0 w:World)(gm:Nat)(AC AF:Option Addr)(cC cF:Nat)(vI vO:Value)(gF cFr b4 b5 k:Nat)(m:Mch)(gs bs:List Nat)(f:Frm)(r:List Frm)(x:Ins)(H:MSt u w0 w gm AC AF cC cF vI (.slice (some ⟨gF,0,none⟩) (r.length+1) cFr) vO b4 b5 k m gs bs)(hf:m.frs=f::r)(hrl:r.length≤64)(hfn:f.fn<u.funcs.length)(hat:f.at_<(zb u f.fn).code.length)(hx:zh (zb u f.fn) f.at_=x)(hop:x.op=9)(v:Vl)(HR:Hid (∀W,Below w.heap.size w W→Calls Tryz.prog 90 #[.pointer (some ⟨gm,0,none⟩),.pointer (some ⟨gF,r.length*8,none⟩),.int .i64 x.a] W fun e w'=>e = .returned (vlV v)∧Below W.heap.size W w'))(hv:v.1=3)(k':Nat)(m':Mch)(HC:Hid (∀(AI:Option Addr) (cI:Nat) (W:World),Below w.heap.size w W→x.args.length≤cI→Sl Lay.int W AI x.args→Calls Tryz.prog 91 #[.pointer (some ⟨gm,0,none⟩),.pointer (some ⟨gF,r.length*8,none⟩),.agg #[.int .i64 x.op,.int .i64 x.dst,.int .i64 x.a,.int .i64 x.b,.int .i64 x.n,.string x.cls,.string x.name,.slice AI x.args.length cI,.int .i64 x.jmp,.int .i64 x.hnd]] W fun e w'=>e = .returned (.tuple #[])∧MNx u w0 gm AC AF cC cF b4 b5 k' m' w')) :
  Calls Tryz.prog 46 #[.pointer (some ⟨gm,0,none⟩)] w fun e w'=>e = .returned (.tuple #[])∧MNx u w0 gm AC AF cC cF b4 b5 k' m' w':=by
 obtain⟨v1,v2,v3⟩:=v;rw[show vlV (v1,v2,v3) = .agg #[.int .i64 v1,.int .i64 v2,.int .i64 v3] from rfl] at HR;have hv':(v1 != 3)=false:=by rw[bne_eq_false_iff_eq];exact hv
 clear hv;have hvk:=fun W=>aej v1 v2 v3 W
 have t9:(x.op==9)=true:=by rw[hop];rfl
 clear hop;have HT:=v9h (yT w gm gF r.length cFr H.bm.lt (by omega) (H.bm.cell 6 rfl))
 go_enter Tryz.func46,Tryz.ntmps46
 go_wp2_with fail
 refine HT.out.mono ?_;rintro e w1 ⟨rfl,hb1⟩;have H1:=H.mono hb1;clear HT H;obtain⟨g,q,hgs,hfr⟩:=H1.frm hf;have hat':f.at_<u.funcs[f.fn].code.length:=by rw[←zv hfn];exact hat
 have HI:=v9h (yZ u.funcs AF cF w1 gm gF (r.length*8) f.fn f.at_ hfn hat' H1.funs H1.bm.lt hfr.ltF.2 (H1.bm.cell 1 rfl) (by have:=hfr.cell (j:=0) (u:= .int .i64 (f.fn:Int)) rfl;rwa[Nat.add_zero] at this) (hfr.cell (j:=1) rfl))
 have hyx:u.funcs[f.fn].code[f.at_]=zh (zb u f.fn) f.at_:=by
  rw[zQ hat]
  congr 1
  rw[zv hfn]
 rw[hyx,hx] at HI;clear hyx hat' hfr
 go_wp2_with fail
 refine HI.out.mono ?_;rintro e w2 ⟨hRI,hb2⟩;obtain⟨AI,cI,rfl,hcI,hsI⟩:=hRI;have H2:=H1.mono hb2;have hb12:=za hb1 hb2;clear HI H1 hb1 hb2
 go_upto_region 2 with fail
 generalize hW:World.alloc _ _=W3 at *
 have hb3:Below w2.heap.size w2 W3:=by rw[←hW];exact(by repeat(first|assumption|exact v9r|apply zc|apply zd|apply zg|apply ze|apply zi))
 have bc:Box W3 w2.heap.size [.int .i64 x.op,.int .i64 x.dst,.int .i64 x.a,.int .i64 x.b,.int .i64 x.n,.string x.cls,.string x.name,.slice AI x.args.length cI,.int .i64 x.jmp,.int .i64 x.hnd] 59:=by rw[←hW];exact Box.new _ _ _
 clear hW;have H3:=H2.mono hb3;have hsI3:=hsI.mono hb3;have hb13:=za hb12 hb3;clear H2 hsI hb12 hb3;have y0:=bc.cell 0 rfl;have y2:=bc.cell 2 rfl;have yl:=bc.lt;have HQ:=v9h (HR.out _ hb13);clear HR
 go_wp2_with fail
 refine HQ.out.mono ?_;rintro e W4 ⟨rfl,hb4⟩;have bc4:=bc.mono hb4;have HA:=v9h (HC.out AI cI W4 (za hb13 hb4) hcI (hsI3.mono hb4));clear HQ H3 hb4 HC hsI3 hb13 y0 y2 yl bc;have y0:=bc4.cell 0 rfl;have y1:=bc4.cell 1 rfl;have y2:=bc4.cell 2 rfl;have y3:=bc4.cell 3 rfl;have y4:=bc4.cell 4 rfl;have y5:=bc4.cell 5 rfl;have y6:=bc4.cell 6 rfl;have y7:=bc4.cell 7 rfl;have y8:=bc4.cell 8 rfl;have y9:=bc4.cell 9 rfl;have yl:=bc4.lt
 go_wp2_with fail
 refine HA.out.mono ?_;rintro e W5 ⟨rfl,hQ⟩;clear HA y0 y1 y2 y3 y4 y5 y6 y7 y8 y9 yl bc4
 go_wp2_with fail
 refine bodyPost_end (results_none rfl _ _ _) rfl ?_;exact⟨rfl,hQ⟩
theorem ahO(u:Unt)(w0 w:World)(gm:Nat)(AC AF:Option Addr)(cC cF:Nat)(vI vO:Value)(gF cFr b4 b5 k:Nat)(m:Mch)(gs bs:List Nat)(f:Frm)(r:List Frm)(x:Ins)(H:MSt u w0 w gm AC AF cC cF vI (.slice (some ⟨gF,0,none⟩) (r.length+1) cFr) vO b4 b5 k m gs bs)(hf:m.frs=f::r)(hrl:r.length≤64)(hfn:f.fn<u.funcs.length)(hat:f.at_<(zb u f.fn).code.length)(hx:zh (zb u f.fn) f.at_=x)(hop:x.op=11)(v:Vl)(HR:Hid (∀W,Below w.heap.size w W→Calls Tryz.prog 90 #[.pointer (some ⟨gm,0,none⟩),.pointer (some ⟨gF,r.length*8,none⟩),.int .i64 x.a] W fun e w'=>e = .returned (vlV v)∧Below W.heap.size W w'))(hz:v.2.1=0)(hatl:f.at_≤100000)(jn:Nat)(hj:x.jmp=(jn:Int)) :
  Calls Tryz.prog 46 #[.pointer (some ⟨gm,0,none⟩)] w fun e w'=>e = .returned (.tuple #[])∧MNx u w0 gm AC AF cC cF b4 b5 k { m with frs:={ f with at_:=f.at_+1}::r} w':=by
 obtain⟨v1,v2,v3⟩:=v;rw[show vlV (v1,v2,v3) = .agg #[.int .i64 v1,.int .i64 v2,.int .i64 v3] from rfl] at HR;have hz':(v2==0)=true:=by simpa using hz
 clear hz;replace hj:=v9h hj;have hvk:=fun W=>aav v1 v2 v3 W
 have t9:(x.op==9)=false:=by rw[hop];rfl
 have t10:(x.op==10)=false:=by rw[hop];rfl
 have t11:(x.op==11)=true:=by rw[hop];rfl
 clear hop;have HT:=v9h (yT w gm gF r.length cFr H.bm.lt (by omega) (H.bm.cell 6 rfl))
 go_enter Tryz.func46,Tryz.ntmps46
 go_wp2_with fail
 refine HT.out.mono ?_;rintro e w1 ⟨rfl,hb1⟩;have H1:=H.mono hb1;clear HT H;obtain⟨g,q,hgs,hfr⟩:=H1.frm hf;have hat':f.at_<u.funcs[f.fn].code.length:=by rw[←zv hfn];exact hat
 have HI:=v9h (yZ u.funcs AF cF w1 gm gF (r.length*8) f.fn f.at_ hfn hat' H1.funs H1.bm.lt hfr.ltF.2 (H1.bm.cell 1 rfl) (by have:=hfr.cell (j:=0) (u:= .int .i64 (f.fn:Int)) rfl;rwa[Nat.add_zero] at this) (hfr.cell (j:=1) rfl))
 have hyx:u.funcs[f.fn].code[f.at_]=zh (zb u f.fn) f.at_:=by
  rw[zQ hat]
  congr 1
  rw[zv hfn]
 rw[hyx,hx] at HI;clear hyx hat' hfr
 go_wp2_with fail
 refine HI.out.mono ?_;rintro e w2 ⟨hRI,hb2⟩;obtain⟨AI,cI,rfl,hcI,hsI⟩:=hRI;have H2:=H1.mono hb2;have hb12:=za hb1 hb2;clear HI H1 hb1 hb2
 go_upto_region 2 with fail
 generalize hW:World.alloc _ _=W3 at *
 have hb3:Below w2.heap.size w2 W3:=by rw[←hW];exact(by repeat(first|assumption|exact v9r|apply zc|apply zd|apply zg|apply ze|apply zi))
 have bc:Box W3 w2.heap.size [.int .i64 x.op,.int .i64 x.dst,.int .i64 x.a,.int .i64 x.b,.int .i64 x.n,.string x.cls,.string x.name,.slice AI x.args.length cI,.int .i64 x.jmp,.int .i64 x.hnd] 59:=by rw[←hW];exact Box.new _ _ _
 clear hW;have H3:=H2.mono hb3;have hsI3:=hsI.mono hb3;have hb13:=za hb12 hb3;clear H2 hsI hb12 hb3;have y0:=bc.cell 0 rfl;have y2:=bc.cell 2 rfl;have yl:=bc.lt;have HQ:=v9h (HR.out _ hb13);clear HR
 go_wp2_with fail
 refine HQ.out.mono ?_;rintro e W4 ⟨rfl,hb4⟩;have bc4:=bc.mono hb4;have H4:=H3.mono hb4;clear HQ H3 hb4 y0 y2 yl bc;obtain⟨g4,q4,hgs4,hfr4⟩:=H4.frm hf;have f1c:=hfr4.cell (j:=1) (u:= .int .i64 (f.at_:Int)) rfl;have ff:=fun i=>hfr4.freeF i
 have fl:=hfr4.ltF.2;have y8:=bc4.cell 8 rfl;rw[hj.out] at y8;have yl:=bc4.lt
 go_wp2_with fail
 refine bodyPost_ret (results_none rfl _ _ _) rfl ?_;exact⟨rfl,_,_,_,_,_,H4.at hf (f.at_+1)⟩
theorem ahP(u:Unt)(w0 w:World)(gm:Nat)(AC AF:Option Addr)(cC cF:Nat)(vI vO:Value)(gF cFr b4 b5 k:Nat)(m:Mch)(gs bs:List Nat)(f:Frm)(r:List Frm)(x:Ins)(H:MSt u w0 w gm AC AF cC cF vI (.slice (some ⟨gF,0,none⟩) (r.length+1) cFr) vO b4 b5 k m gs bs)(hf:m.frs=f::r)(hrl:r.length≤64)(hfn:f.fn<u.funcs.length)(hat:f.at_<(zb u f.fn).code.length)(hx:zh (zb u f.fn) f.at_=x)(hop:x.op=11)(v:Vl)(HR:Hid (∀W,Below w.heap.size w W→Calls Tryz.prog 90 #[.pointer (some ⟨gm,0,none⟩),.pointer (some ⟨gF,r.length*8,none⟩),.int .i64 x.a] W fun e w'=>e = .returned (vlV v)∧Below W.heap.size W w'))(hz:v.2.1≠0)(hatl:f.at_≤100000)(jn:Nat)(hj:x.jmp=(jn:Int)) :
  Calls Tryz.prog 46 #[.pointer (some ⟨gm,0,none⟩)] w fun e w'=>e = .returned (.tuple #[])∧MNx u w0 gm AC AF cC cF b4 b5 k { m with frs:={ f with at_:=jn}::r} w':=by
 obtain⟨v1,v2,v3⟩:=v;rw[show vlV (v1,v2,v3) = .agg #[.int .i64 v1,.int .i64 v2,.int .i64 v3] from rfl] at HR;have hz':(v2==0)=false:=by simpa using hz
 clear hz;replace hj:=v9h hj;have hvk:=fun W=>aav v1 v2 v3 W
 have t9:(x.op==9)=false:=by rw[hop];rfl
 have t10:(x.op==10)=false:=by rw[hop];rfl
 have t11:(x.op==11)=true:=by rw[hop];rfl
 clear hop;have HT:=v9h (yT w gm gF r.length cFr H.bm.lt (by omega) (H.bm.cell 6 rfl))
 go_enter Tryz.func46,Tryz.ntmps46
 go_wp2_with fail
 refine HT.out.mono ?_;rintro e w1 ⟨rfl,hb1⟩;have H1:=H.mono hb1;clear HT H;obtain⟨g,q,hgs,hfr⟩:=H1.frm hf;have hat':f.at_<u.funcs[f.fn].code.length:=by rw[←zv hfn];exact hat
 have HI:=v9h (yZ u.funcs AF cF w1 gm gF (r.length*8) f.fn f.at_ hfn hat' H1.funs H1.bm.lt hfr.ltF.2 (H1.bm.cell 1 rfl) (by have:=hfr.cell (j:=0) (u:= .int .i64 (f.fn:Int)) rfl;rwa[Nat.add_zero] at this) (hfr.cell (j:=1) rfl))
 have hyx:u.funcs[f.fn].code[f.at_]=zh (zb u f.fn) f.at_:=by
  rw[zQ hat]
  congr 1
  rw[zv hfn]
 rw[hyx,hx] at HI;clear hyx hat' hfr
 go_wp2_with fail
 refine HI.out.mono ?_;rintro e w2 ⟨hRI,hb2⟩;obtain⟨AI,cI,rfl,hcI,hsI⟩:=hRI;have H2:=H1.mono hb2;have hb12:=za hb1 hb2;clear HI H1 hb1 hb2
 go_upto_region 2 with fail
 generalize hW:World.alloc _ _=W3 at *
 have hb3:Below w2.heap.size w2 W3:=by rw[←hW];exact(by repeat(first|assumption|exact v9r|apply zc|apply zd|apply zg|apply ze|apply zi))
 have bc:Box W3 w2.heap.size [.int .i64 x.op,.int .i64 x.dst,.int .i64 x.a,.int .i64 x.b,.int .i64 x.n,.string x.cls,.string x.name,.slice AI x.args.length cI,.int .i64 x.jmp,.int .i64 x.hnd] 59:=by rw[←hW];exact Box.new _ _ _
 clear hW;have H3:=H2.mono hb3;have hsI3:=hsI.mono hb3;have hb13:=za hb12 hb3;clear H2 hsI hb12 hb3;have y0:=bc.cell 0 rfl;have y2:=bc.cell 2 rfl;have yl:=bc.lt;have HQ:=v9h (HR.out _ hb13);clear HR
 go_wp2_with fail
 refine HQ.out.mono ?_;rintro e W4 ⟨rfl,hb4⟩;have bc4:=bc.mono hb4;have H4:=H3.mono hb4;clear HQ H3 hb4 y0 y2 yl bc;obtain⟨g4,q4,hgs4,hfr4⟩:=H4.frm hf;have f1c:=hfr4.cell (j:=1) (u:= .int .i64 (f.at_:Int)) rfl;have ff:=fun i=>hfr4.freeF i
 have fl:=hfr4.ltF.2;have y8:=bc4.cell 8 rfl;rw[hj.out] at y8;have yl:=bc4.lt
 go_wp2_with fail
 refine bodyPost_end (results_none rfl _ _ _) rfl ?_;exact⟨rfl,_,_,_,_,_,H4.at hf (jn)⟩
theorem aiS(u:Unt)(w0 w:World)(gm:Nat)(AC AF:Option Addr)(cC cF:Nat)(vI vO:Value)(gF cFr b4 b5 k:Nat)(m:Mch)(gs bs:List Nat)(f:Frm)(r:List Frm)(x:Ins)(H:MSt u w0 w gm AC AF cC cF vI (.slice (some ⟨gF,0,none⟩) (r.length+1) cFr) vO b4 b5 k m gs bs)(hf:m.frs=f::r)(hrl:r.length≤64)(hfn:f.fn<u.funcs.length)(hat:f.at_<(zb u f.fn).code.length)(hx:zh (zb u f.fn) f.at_=x)(hop:x.op=12)(jn:Nat)(hj:x.jmp=(jn:Int)) :
  Calls Tryz.prog 46 #[.pointer (some ⟨gm,0,none⟩)] w fun e w'=>e = .returned (.tuple #[])∧MNx u w0 gm AC AF cC cF b4 b5 k { m with frs:={ f with at_:=jn}::r} w':=by
 replace hj:=v9h hj;have t9:(x.op==9)=false:=by rw[hop];rfl
 have t10:(x.op==10)=false:=by rw[hop];rfl
 have t11:(x.op==11)=false:=by rw[hop];rfl
 have t12:(x.op==12)=true:=by rw[hop];rfl
 clear hop;have HT:=v9h (yT w gm gF r.length cFr H.bm.lt (by omega) (H.bm.cell 6 rfl))
 go_enter Tryz.func46,Tryz.ntmps46
 go_wp2_with fail
 refine HT.out.mono ?_;rintro e w1 ⟨rfl,hb1⟩;have H1:=H.mono hb1;clear HT H;obtain⟨g,q,hgs,hfr⟩:=H1.frm hf;have hat':f.at_<u.funcs[f.fn].code.length:=by rw[←zv hfn];exact hat
 have HI:=v9h (yZ u.funcs AF cF w1 gm gF (r.length*8) f.fn f.at_ hfn hat' H1.funs H1.bm.lt hfr.ltF.2 (H1.bm.cell 1 rfl) (by have:=hfr.cell (j:=0) (u:= .int .i64 (f.fn:Int)) rfl;rwa[Nat.add_zero] at this) (hfr.cell (j:=1) rfl))
 have hyx:u.funcs[f.fn].code[f.at_]=zh (zb u f.fn) f.at_:=by
  rw[zQ hat]
  congr 1
  rw[zv hfn]
 rw[hyx,hx] at HI;clear hyx hat' hfr
 go_wp2_with fail
 refine HI.out.mono ?_;rintro e w2 ⟨hRI,hb2⟩;obtain⟨AI,cI,rfl,hcI,hsI⟩:=hRI;have H2:=H1.mono hb2;have hb12:=za hb1 hb2;clear HI H1 hb1 hb2
 go_upto_region 2 with fail
 generalize hW:World.alloc _ _=W3 at *
 have hb3:Below w2.heap.size w2 W3:=by rw[←hW];exact(by repeat(first|assumption|exact v9r|apply zc|apply zd|apply zg|apply ze|apply zi))
 have bc:Box W3 w2.heap.size [.int .i64 x.op,.int .i64 x.dst,.int .i64 x.a,.int .i64 x.b,.int .i64 x.n,.string x.cls,.string x.name,.slice AI x.args.length cI,.int .i64 x.jmp,.int .i64 x.hnd] 59:=by rw[←hW];exact Box.new _ _ _
 clear hW;have H3:=H2.mono hb3;have hsI3:=hsI.mono hb3;have hb13:=za hb12 hb3;clear H2 hsI hb12 hb3;obtain⟨g4,q4,hgs4,hfr4⟩:=H3.frm hf;have f1c:=hfr4.cell (j:=1) (u:= .int .i64 (f.at_:Int)) rfl;have ff:=fun i=>hfr4.freeF i
 have fl:=hfr4.ltF.2;have y0:=bc.cell 0 rfl;have y8:=bc.cell 8 rfl;have yl:=bc.lt;rw[hj.out] at y8
 go_wp2_with fail
 refine bodyPost_end (results_none rfl _ _ _) rfl ?_;exact⟨rfl,_,_,_,_,_,H3.at hf jn⟩
theorem ahQ(u:Unt)(w0 w:World)(gm:Nat)(AC AF:Option Addr)(cC cF:Nat)(vI vO:Value)(gF cFr b4 b5 k:Nat)(m:Mch)(gs bs:List Nat)(f:Frm)(r:List Frm)(x:Ins)(H:MSt u w0 w gm AC AF cC cF vI (.slice (some ⟨gF,0,none⟩) (r.length+1) cFr) vO b4 b5 k m gs bs)(hf:m.frs=f::r)(hrl:r.length≤64)(hfn:f.fn<u.funcs.length)(hat:f.at_<(zb u f.fn).code.length)(hx:zh (zb u f.fn) f.at_=x)(hop:x.op=14)(v:Vl)(HR:Hid (∀W,Below w.heap.size w W→Calls Tryz.prog 90 #[.pointer (some ⟨gm,0,none⟩),.pointer (some ⟨gF,r.length*8,none⟩),.int .i64 x.a] W fun e w'=>e = .returned (vlV v)∧Below W.heap.size W w'))(hv:v.1≠3) :
  Calls Tryz.prog 46 #[.pointer (some ⟨gm,0,none⟩)] w fun e w'=>e = .returned (.tuple #[])∧MNx u w0 gm AC AF cC cF b4 b5 k { m with en:=3} w':=by
 obtain⟨v1,v2,v3⟩:=v;rw[show vlV (v1,v2,v3) = .agg #[.int .i64 v1,.int .i64 v2,.int .i64 v3] from rfl] at HR;have hv':(v1 != 3)=true:=by rw[bne_iff_ne];exact hv
 clear hv;have t9:(x.op==9)=false:=by rw[hop];rfl
 have t10:(x.op==10)=false:=by rw[hop];rfl
 have t11:(x.op==11)=false:=by rw[hop];rfl
 have t12:(x.op==12)=false:=by rw[hop];rfl
 have t13:(x.op==13)=false:=by rw[hop];rfl
 have t14:(x.op==14)=true:=by rw[hop];rfl
 clear hop;have HT:=v9h (yT w gm gF r.length cFr H.bm.lt (by omega) (H.bm.cell 6 rfl))
 go_enter Tryz.func46,Tryz.ntmps46
 go_wp2_with fail
 refine HT.out.mono ?_;rintro e w1 ⟨rfl,hb1⟩;have H1:=H.mono hb1;clear HT H;obtain⟨g,q,hgs,hfr⟩:=H1.frm hf;have hat':f.at_<u.funcs[f.fn].code.length:=by rw[←zv hfn];exact hat
 have HI:=v9h (yZ u.funcs AF cF w1 gm gF (r.length*8) f.fn f.at_ hfn hat' H1.funs H1.bm.lt hfr.ltF.2 (H1.bm.cell 1 rfl) (by have:=hfr.cell (j:=0) (u:= .int .i64 (f.fn:Int)) rfl;rwa[Nat.add_zero] at this) (hfr.cell (j:=1) rfl))
 have hyx:u.funcs[f.fn].code[f.at_]=zh (zb u f.fn) f.at_:=by
  rw[zQ hat]
  congr 1
  rw[zv hfn]
 rw[hyx,hx] at HI;clear hyx hat' hfr
 go_wp2_with fail
 refine HI.out.mono ?_;rintro e w2 ⟨hRI,hb2⟩;obtain⟨AI,cI,rfl,hcI,hsI⟩:=hRI;have H2:=H1.mono hb2;have hb12:=za hb1 hb2;clear HI H1 hb1 hb2
 go_upto_region 2 with fail
 generalize hW:World.alloc _ _=W3 at *
 have hb3:Below w2.heap.size w2 W3:=by rw[←hW];exact(by repeat(first|assumption|exact v9r|apply zc|apply zd|apply zg|apply ze|apply zi))
 have bc:Box W3 w2.heap.size [.int .i64 x.op,.int .i64 x.dst,.int .i64 x.a,.int .i64 x.b,.int .i64 x.n,.string x.cls,.string x.name,.slice AI x.args.length cI,.int .i64 x.jmp,.int .i64 x.hnd] 59:=by rw[←hW];exact Box.new _ _ _
 clear hW;have H3:=H2.mono hb3;have hsI3:=hsI.mono hb3;have hb13:=za hb12 hb3;clear H2 hsI hb12 hb3;have y0:=bc.cell 0 rfl;have y2:=bc.cell 2 rfl;have yl:=bc.lt;have HQ:=v9h (HR.out _ hb13);clear HR
 go_wp2_with fail
 refine HQ.out.mono ?_;rintro e W4 ⟨rfl,hb4⟩;have H4:=H3.mono hb4;have hb4:=za hb13 hb4;clear HQ H3 hb13 y0 y2 yl bc
 go_upto_region 20 with fail
 generalize hW:World.alloc _ _=W5 at *
 have hb45:Below W4.heap.size W4 W5:=by rw[←hW];exact(by repeat(first|assumption|exact v9r|apply zc|apply zd|apply zg|apply ze|apply zi))
 have bx:Box W5 W4.heap.size [.int .i64 v1,.int .i64 v2,.int .i64 v3] 63:=by rw[←hW];exact Box.new _ _ _
 clear hW;have H5:=H4.mono hb45;have hb5:=za hb4 hb45;clear H4 hb4 hb45;have z0:=bx.cell 0 rfl;have zl:=bx.lt;have q9:=H5.bm.cell 9 rfl;have qf:=fun i=>H5.bm.free i
 have ql:=H5.bm.lt
 go_wp2_with fail
 refine bodyPost_ret (results_none rfl _ _ _) rfl ?_;exact⟨rfl,_,_,_,_,_,H5.setEn 3⟩
theorem aiT(u:Unt)(w0 w:World)(gm:Nat)(AC AF:Option Addr)(cC cF:Nat)(vI vO:Value)(gF cFr b4 b5 k:Nat)(m:Mch)(gs bs:List Nat)(f:Frm)(r:List Frm)(x:Ins)(H:MSt u w0 w gm AC AF cC cF vI (.slice (some ⟨gF,0,none⟩) (r.length+1) cFr) vO b4 b5 k m gs bs)(hf:m.frs=f::r)(hrl:r.length≤64)(hfn:f.fn<u.funcs.length)(hat:f.at_<(zb u f.fn).code.length)(hx:zh (zb u f.fn) f.at_=x)(hop:x.op=14)(v:Vl)(HR:Hid (∀W,Below w.heap.size w W→Calls Tryz.prog 90 #[.pointer (some ⟨gm,0,none⟩),.pointer (some ⟨gF,r.length*8,none⟩),.int .i64 x.a] W fun e w'=>e = .returned (vlV v)∧Below W.heap.size W w'))(hv:v.1=3)(m':Mch)(HC:Hid (∀W,Below w.heap.size w W→Calls Tryz.prog 93 #[.pointer (some ⟨gm,0,none⟩),vlV v] W fun e w'=>e = .returned (.tuple #[])∧MNx u w0 gm AC AF cC cF b4 b5 k m' w')) :
  Calls Tryz.prog 46 #[.pointer (some ⟨gm,0,none⟩)] w fun e w'=>e = .returned (.tuple #[])∧MNx u w0 gm AC AF cC cF b4 b5 k m' w':=by
 obtain⟨v1,v2,v3⟩:=v;rw[show vlV (v1,v2,v3) = .agg #[.int .i64 v1,.int .i64 v2,.int .i64 v3] from rfl] at HR HC;have hv':(v1 != 3)=false:=by rw[bne_eq_false_iff_eq];exact hv
 clear hv;have t9:(x.op==9)=false:=by rw[hop];rfl
 have t10:(x.op==10)=false:=by rw[hop];rfl
 have t11:(x.op==11)=false:=by rw[hop];rfl
 have t12:(x.op==12)=false:=by rw[hop];rfl
 have t13:(x.op==13)=false:=by rw[hop];rfl
 have t14:(x.op==14)=true:=by rw[hop];rfl
 clear hop;have HT:=v9h (yT w gm gF r.length cFr H.bm.lt (by omega) (H.bm.cell 6 rfl))
 go_enter Tryz.func46,Tryz.ntmps46
 go_wp2_with fail
 refine HT.out.mono ?_;rintro e w1 ⟨rfl,hb1⟩;have H1:=H.mono hb1;clear HT H;obtain⟨g,q,hgs,hfr⟩:=H1.frm hf;have hat':f.at_<u.funcs[f.fn].code.length:=by rw[←zv hfn];exact hat
 have HI:=v9h (yZ u.funcs AF cF w1 gm gF (r.length*8) f.fn f.at_ hfn hat' H1.funs H1.bm.lt hfr.ltF.2 (H1.bm.cell 1 rfl) (by have:=hfr.cell (j:=0) (u:= .int .i64 (f.fn:Int)) rfl;rwa[Nat.add_zero] at this) (hfr.cell (j:=1) rfl))
 have hyx:u.funcs[f.fn].code[f.at_]=zh (zb u f.fn) f.at_:=by
  rw[zQ hat]
  congr 1
  rw[zv hfn]
 rw[hyx,hx] at HI;clear hyx hat' hfr
 go_wp2_with fail
 refine HI.out.mono ?_;rintro e w2 ⟨hRI,hb2⟩;obtain⟨AI,cI,rfl,hcI,hsI⟩:=hRI;have H2:=H1.mono hb2;have hb12:=za hb1 hb2;clear HI H1 hb1 hb2
 go_upto_region 2 with fail
 generalize hW:World.alloc _ _=W3 at *
 have hb3:Below w2.heap.size w2 W3:=by rw[←hW];exact(by repeat(first|assumption|exact v9r|apply zc|apply zd|apply zg|apply ze|apply zi))
 have bc:Box W3 w2.heap.size [.int .i64 x.op,.int .i64 x.dst,.int .i64 x.a,.int .i64 x.b,.int .i64 x.n,.string x.cls,.string x.name,.slice AI x.args.length cI,.int .i64 x.jmp,.int .i64 x.hnd] 59:=by rw[←hW];exact Box.new _ _ _
 clear hW;have H3:=H2.mono hb3;have hsI3:=hsI.mono hb3;have hb13:=za hb12 hb3;clear H2 hsI hb12 hb3;have y0:=bc.cell 0 rfl;have y2:=bc.cell 2 rfl;have yl:=bc.lt;have HQ:=v9h (HR.out _ hb13);clear HR
 go_wp2_with fail
 refine HQ.out.mono ?_;rintro e W4 ⟨rfl,hb4⟩;have H4:=H3.mono hb4;have hb4:=za hb13 hb4;clear HQ H3 hb13 y0 y2 yl bc
 go_upto_region 20 with fail
 generalize hW:World.alloc _ _=W5 at *
 have hb45:Below W4.heap.size W4 W5:=by rw[←hW];exact(by repeat(first|assumption|exact v9r|apply zc|apply zd|apply zg|apply ze|apply zi))
 have bx:Box W5 W4.heap.size [.int .i64 v1,.int .i64 v2,.int .i64 v3] 63:=by rw[←hW];exact Box.new _ _ _
 clear hW;have H5:=H4.mono hb45;have hb5:=za hb4 hb45;clear H4 hb4 hb45;have z0:=bx.cell 0 rfl;have zl:=bx.lt;have z1:=bx.cell 1 rfl;have z2:=bx.cell 2 rfl;have HA:=v9h (HC.out _ hb5);clear HC
 go_wp2_with fail
 refine HA.out.mono ?_;rintro e W6 ⟨rfl,hQ⟩;clear HA z0 z1 z2 zl bx H5
 go_wp2_with fail
 refine bodyPost_end (results_none rfl _ _ _) rfl ?_;exact⟨rfl,hQ⟩
theorem ah8{cs:List Cls}(hs:yQ cs){s n:ByteArray}(h:(zz cs s n).2.2=true):zG n:=by
 obtain⟨i,hi⟩:=abQ h;unfold fIdx at hi
 cases hc:cs[i.toNat]? with
 |none=>rw[hc] at hi;exact absurd hi (show ¬(0:Int)≤ -1 by decide)
 |some c=>
  rw[hc] at hi;replace hi:0≤idxI (ye n) c.fields:=hi;obtain⟨k,hk,_,hp⟩:=afd hi;have e:c.fields[k].name=n:=jY.1 hp;rw[←e];exact((hs c (List.mem_of_getElem? hc)).2.1 _ (List.getElem_mem hk)).1
section
variable {u:Unt} {w0 w w':World} {gm gF cFr:Nat} {AC AF:Option Addr} {cC cF:Nat} {vI vF vO:Value} {b4 b5 k:Nat} {m:Mch} {gs bs:List Nat} {f:Frm} {r:List Frm} {g:Nat} {q:List Nat}
theorem MSt.as(H:MSt u w0 w gm AC AF cC cF vI (.slice (some ⟨gF,0,none⟩) (r.length+1) cFr) vO b4 b5 k m (g::q) bs){d:Nat}{v:Vl}(h:aaO w w0.heap.size (.slice (some ⟨gF,0,none⟩) (r.length+1) cFr) vO f r g q m.obs d v w'):MNf u w0 gm AC AF cC cF gF r.length cFr b4 b5 k { m with frs:={ f with vals:=f.vals.set d v}::r} w':=by
 obtain⟨a1,a2,a3⟩:=h;exact⟨_,_,_,_,H.turn a3 (Nat.le_refl _) (H.bm.keptM a3 (by decide)) a1 a2 rfl rfl H.md⟩
theorem MSt.as5{AL:Option Addr}{cL:Nat}(H:MSt u w0 w gm AC AF cC cF (.slice AL m.inp.length cL) (.slice (some ⟨gF,0,none⟩) (r.length+1) cFr) vO b4 b5 k m (g::q) bs){d:Nat}
  (h:ah5 w w0.heap.size gm (.slice AC u.classes.length cC) (.slice AF u.funcs.length cF) (.int .i64 u.main) (.map (some b4)) (.map (some b5)) (.int .i64 (m.made:Int)) vO (.int .i64 m.en) (.slice (some ⟨gF,0,none⟩) (r.length+1) cFr) vO f r g q m.obs d AL m.inp w') (hS:Sl Lay.int w0 AL m.inp):MNf u w0 gm AC AF cC cF gF r.length cFr b4 b5 k { m with inp:=m.inp.tail,frs:={ f with vals:=f.vals.set d (1,m.inp.headD 0,0)}::r} w':=by
 obtain⟨A',c',h1,h2,h3,h4,h5,h6⟩:=h;exact⟨_,_,_,_,H.un,H.hw.trans (h6.toBelow H.hw.size),H.hB,h3,h4,h5,H.oj.keptM h6,H.si.keptM h6,⟨A',c',rfl,h1,h2 _ hS⟩,H.dis,H.mlo,H.md,H.oc⟩
theorem MSt.as6(H:MSt u w0 w gm AC AF cC cF vI (.slice (some ⟨gF,0,none⟩) (r.length+1) cFr) vO b4 b5 k m (g::q) bs){d:Nat}{site:Int}{cl:ByteArray}
  (h:ah6 u w w0.heap.size gm b4 b5 k [.slice AC u.classes.length cC,.slice AF u.funcs.length cF,.int .i64 u.main,vI,.map (some b4),.map (some b5),.slice (some ⟨gF,0,none⟩) (r.length+1) cFr,.int .i64 (m.made:Int),vO,.int .i64 m.en] (.slice (some ⟨gF,0,none⟩) (r.length+1) cFr) vO f r g q m.obs d site m.objs bs cl w'):MNf u w0 gm AC AF cC cF gF r.length cFr b4 b5 (k+1) { m with objs:=m.objs++[qy u cl],frs:={ f with vals:=f.vals.set d (3,(m.objs.length:Int),site)}::r} w':=by
 obtain⟨b,h1,h2,h3,h4,h5,h6,h7⟩:=h
 have hlt:b4<w.heap.size:=by
  obtain⟨_,_,h8,_⟩:=H.si;exact h8.lt
 refine⟨_,_,_,bs++[b],H.un,H.hw.trans h7,H.hB,h2,h3,h4,h5.more (Nat.le_succ _),h6,H.inp,fun hm=>?_,fun x hx=>?_,by have:=H.md;show m.made≤k+1+1;omega,by have:=H.oc;show(m.objs++[qy u cl]).length≤k+1;rw[List.length_append,List.length_singleton];omega⟩
 ·rcases List.mem_cons.1 hm with e|hm
  ·exact H.dis (by rw[e];simp)
  ·rcases List.mem_append.1 hm with hm|hm
   ·exact H.dis (by simp[hm])
   ·rw[List.mem_singleton.1 hm] at hlt;omega
 ·rcases List.mem_cons.1 hx with rfl|hx
  ·exact H.mlo _ (by simp)
  rcases List.mem_cons.1 hx with rfl|hx
  ·exact H.mlo _ (by simp)
  rcases List.mem_append.1 hx with hx|hx
  ·exact H.mlo x (by simp[hx])
  ·rw[List.mem_singleton.1 hx];have:=H.hw.size;omega
theorem MSt.l0(H:MSt u w0 w gm AC AF cC cF vI (.slice (some ⟨gF,0,none⟩) (([]:List Frm).length+1) cFr) vO b4 b5 k m gs bs)(hf:m.frs=f::[])(h:ah4 w0.heap.size w gm gF cFr (.slice AC u.classes.length cC) (.slice AF u.funcs.length cF) (.int .i64 u.main) vI (.map (some b4)) (.map (some b5)) (.int .i64 (m.made:Int)) vO w'):MNx u w0 gm AC AF cC cF b4 b5 k { m with frs:=[],en:=1} w':=by
 obtain⟨h1,h2⟩:=h;obtain⟨g,q,rfl,hfr⟩:=H.frm hf;have hq:q=[]:=by have:=hfr.len;simpa using this
 subst hq;exact⟨_,_,_,[],_,H.turn h2 (Nat.le_refl _) h1 (hfr.pop.keptM h2 (by decide) (by decide)) ((H.ob.keptM h2 (by decide) (by decide)).blocks (fun b hb=>by cases hb)) rfl rfl H.md⟩
theorem MSt.l1{f1:Frm}{d:Int}{v:Vl}(H:MSt u w0 w gm AC AF cC cF vI (.slice (some ⟨gF,0,none⟩) ((f1::r).length+1) cFr) vO b4 b5 k m (g::q) bs)(h:ah7 w w0.heap.size gm gF cFr (.slice AC u.classes.length cC) (.slice AF u.funcs.length cF) (.int .i64 u.main) vI (.map (some b4)) (.map (some b5)) (.int .i64 (m.made:Int)) vO (.int .i64 m.en) f1 d v r q m.obs w'):MNx u w0 gm AC AF cC cF b4 b5 k { m with frs:=backF f1 d v::r} w':=by
 obtain⟨h1,h2,h3,h4⟩:=h;exact⟨_,_,_,_,_,H.turn h4 (Nat.le_refl _) h1 h2 h3 rfl rfl H.md⟩
end
theorem ahR(u:Unt)(HU:UV u)(w0 w:World)(gm:Nat)(AC AF:Option Addr)(cC cF:Nat)(vI vF vO:Value)(b4 b5 k:Nat)(m:Mch)(gs bs:List Nat)(H:MSt u w0 w gm AC AF cC cF vI vF vO b4 b5 k m gs bs)(hW:WT u m)(f:Frm)(r:List Frm)(hf:m.frs=f::r)(hen:m.en=0)(hkl:k≤10000)(hol:m.obs.length≤10000)(hin:m.inp.length≤1000) :
  Calls Tryz.prog 46 #[.pointer (some ⟨gm,0,none⟩)] w fun e w'=>e = .returned (.tuple #[])∧MNx u w0 gm AC AF cC cF b4 b5 (k+1) (zS u m f r) w':=by
 obtain⟨gF,cFr,rfl⟩:=H.form hf;obtain⟨g,q,rfl,hfr⟩:=H.frm hf;have hT:=hW.frs f (by rw[hf];simp);have hR:=ke HU.u hT.fn hT.at_;have hC:=jz HU.u hT.fn hT.at_;have ht:=(jd HU.u hT.fn hT.at_).typ;have hop17:=hop17 HU hT;have hrl:r.length≤64:=by have:=hW.cnt;rw[hf,List.length_cons] at this;omega
 obtain⟨pF,_,hFV⟩:=qA HU.u hT.fn;have hatl:f.at_≤100000:=by have:=hT.at_;have:=hFV.cl1;omega
 have hoc:=H.oc;have hcat:(zh (zb u f.fn) f.at_).op=15→∃c,RefC (yg u) m.objs f.exc c:=fun h=>hT.exc (by rw[qJ hT.at_,decide_eq_true_eq,←zQ hT.at_];exact h)
 obtain⟨x,hx⟩:∃x,zh (zb u f.fn) f.at_=x:=⟨_,rfl⟩
 have hRd:=hR.d;have hRa:=hR.a;have hRb:=hR.b;have hRg:=hR.args;rw[hx] at hRd hRa hRb hRg ht hop17 hcat;have HRD:∀v,varB (zb u f.fn).vars.length v=true→Hid (∀W,Below w.heap.size w W→Calls Tryz.prog 90 #[.pointer (some ⟨gm,0,none⟩),.pointer (some ⟨gF,r.length*8,none⟩),.int .i64 v] W fun e w'=>e = .returned (vlV (rdV (zb u f.fn) f.vals v))∧Below W.heap.size W w'):=fun v hv=>v9h (fun W hb=>H.read hf hT.fn hT.len hv W hb)
 have HRW:∀v,varB (zb u f.fn).vars.length v=true→∀W0,Below w.heap.size w W0→Hid (∀W,Below W0.heap.size W0 W→Calls Tryz.prog 90 #[.pointer (some ⟨gm,0,none⟩),.pointer (some ⟨gF,r.length*8,none⟩),.int .i64 v] W fun e w'=>e = .returned (vlV (rdV (zb u f.fn) f.vals v))∧Below W.heap.size W w'):=fun v hv W0 h0=>v9h (fun W hb=>(HRD v hv).out W (za h0 hb))
 have HVD:varB (zb u f.fn).vars.length x.dst=true→x.dst=(x.dst.toNat:Int)∧x.dst.toNat<f.vals.length:=fun h=>by
  obtain⟨h0,h1⟩:=yK.1 h;rw[hT.len]
  omega
 have HRS:∀v:Vl,Hid (∀W,Below w.heap.size w W→Calls Tryz.prog 93 #[.pointer (some ⟨gm,0,none⟩),vlV v] W fun e w'=>e = .returned (.tuple #[])∧MNx u w0 gm AC AF cC cF b4 b5 k (qH u m v) w'):=fun v=>v9h (fun W hb=>by
  obtain⟨v1,v2,v3⟩:=v
  exact agT u w0 W gm AC AF cC cF _ _ _ b4 b5 k m _ bs (H.mono hb) v1 v2 v3 (fun y hy=>by
   have hy':=hW.frs y hy;exact⟨hy'.fn,hy'.at_,fun hh=>((jz HU.u hy'.fn hy'.at_).hnd hh).1⟩) hW.cnt)
 rcases hop17 with h|h|h|h|h|h|h|h|h|h|h|h|h|h|h|h|h
 ·have hst:=aaD (u:=u) (m:=m) (f:=f) (r:=r) (by rw[hx];exact h)
  try rw[hx] at hst
  rw[hst]
  have HC:Hid (∀(AI:Option Addr) (cI:Nat) (W:World),Below w.heap.size w W→x.args.length≤cI→Sl Lay.int W AI x.args→Calls Tryz.prog 96 #[.pointer (some ⟨gm,0,none⟩),.pointer (some ⟨gF,r.length*8,none⟩),.agg #[.int .i64 x.op,.int .i64 x.dst,.int .i64 x.a,.int .i64 x.b,.int .i64 x.n,.string x.cls,.string x.name,.slice AI x.args.length cI,.int .i64 x.jmp,.int .i64 x.hnd]] W fun e w'=>e = .returned (.tuple #[])∧MNf u w0 gm AC AF cC cF gF r.length cFr b4 b5 k m w'):=v9h (fun AI cI W hb _ _=>by
   have HW:=H.mono hb;obtain⟨g',q',hgs',hfr'⟩:=HW.frm hf;injection hgs' with e1 e2
   subst e1 e2;exact(ahI W (.pointer (some ⟨gF,r.length*8,none⟩)) (.pointer (some ⟨gm,0,none⟩)) x AI cI h).mono (fun e w' hh=>⟨hh.1,by have h2:=hh.2;exact⟨_,_,_,_,HW.mono h2⟩⟩))
  exact(jo u w0 w gm AC AF cC cF _ _ gF cFr b4 b5 k m _ bs f r x H hf hrl hT.fn hT.at_ hx (by omega) k m f hf hatl HC).mono (fun e w' hh=>⟨hh.1,hh.2.more (by omega)⟩)
 ·have hst:=aaE (u:=u) (m:=m) (f:=f) (r:=r) (by rw[hx];exact h)
  try rw[hx] at hst
  rw[hst];obtain⟨hd1,hd2⟩:=HVD (hRd (by rw[h];rfl) (by rw[h];rfl))
  have HC:Hid (∀(AI:Option Addr) (cI:Nat) (W:World),Below w.heap.size w W→x.args.length≤cI→Sl Lay.int W AI x.args→Calls Tryz.prog 96 #[.pointer (some ⟨gm,0,none⟩),.pointer (some ⟨gF,r.length*8,none⟩),.agg #[.int .i64 x.op,.int .i64 x.dst,.int .i64 x.a,.int .i64 x.b,.int .i64 x.n,.string x.cls,.string x.name,.slice AI x.args.length cI,.int .i64 x.jmp,.int .i64 x.hnd]] W fun e w'=>e = .returned (.tuple #[])∧MNf u w0 gm AC AF cC cF gF r.length cFr b4 b5 k { m with frs:={ f with vals:=f.vals.set x.dst.toNat (1,x.n,0)}::r} w'):=v9h (fun AI cI W hb _ _=>by
   have HW:=H.mono hb;obtain⟨g',q',hgs',hfr'⟩:=HW.frm hf;injection hgs' with e1 e2
   subst e1 e2;exact(ahF W w0.heap.size gF cFr g (.pointer (some ⟨gm,0,none⟩)) vO f r q m.obs x AI cI x.dst.toNat h  hd1 hd2 hfr' HW.ob).mono (fun e w' hh=>⟨hh.1,by have h2:=hh.2;exact HW.as h2⟩))
  exact(jo u w0 w gm AC AF cC cF _ _ gF cFr b4 b5 k m _ bs f r x H hf hrl hT.fn hT.at_ hx (by omega) k { m with frs:={ f with vals:=f.vals.set x.dst.toNat (1,x.n,0)}::r} { f with vals:=f.vals.set x.dst.toNat (1,x.n,0)} rfl hatl HC).mono (fun e w' hh=>⟨hh.1,hh.2.more (by omega)⟩)
 ·have hst:=aaF (u:=u) (m:=m) (f:=f) (r:=r) (by rw[hx];exact h)
  try rw[hx] at hst
  rw[hst];obtain⟨hd1,hd2⟩:=HVD (hRd (by rw[h];rfl) (by rw[h];rfl))
  have HC:Hid (∀(AI:Option Addr) (cI:Nat) (W:World),Below w.heap.size w W→x.args.length≤cI→Sl Lay.int W AI x.args→Calls Tryz.prog 96 #[.pointer (some ⟨gm,0,none⟩),.pointer (some ⟨gF,r.length*8,none⟩),.agg #[.int .i64 x.op,.int .i64 x.dst,.int .i64 x.a,.int .i64 x.b,.int .i64 x.n,.string x.cls,.string x.name,.slice AI x.args.length cI,.int .i64 x.jmp,.int .i64 x.hnd]] W fun e w'=>e = .returned (.tuple #[])∧MNf u w0 gm AC AF cC cF gF r.length cFr b4 b5 k { m with frs:={ f with vals:=f.vals.set x.dst.toNat (2,0,0)}::r} w'):=v9h (fun AI cI W hb _ _=>by
   have HW:=H.mono hb;obtain⟨g',q',hgs',hfr'⟩:=HW.frm hf;injection hgs' with e1 e2
   subst e1 e2;exact(ahG W w0.heap.size gF cFr g (.pointer (some ⟨gm,0,none⟩)) vO f r q m.obs x AI cI x.dst.toNat h  hd1 hd2 hfr' HW.ob).mono (fun e w' hh=>⟨hh.1,by have h2:=hh.2;exact HW.as h2⟩))
  exact(jo u w0 w gm AC AF cC cF _ _ gF cFr b4 b5 k m _ bs f r x H hf hrl hT.fn hT.at_ hx (by omega) k { m with frs:={ f with vals:=f.vals.set x.dst.toNat (2,0,0)}::r} { f with vals:=f.vals.set x.dst.toNat (2,0,0)} rfl hatl HC).mono (fun e w' hh=>⟨hh.1,hh.2.more (by omega)⟩)
 ·have hst:=aaG (u:=u) (m:=m) (f:=f) (r:=r) (by rw[hx];exact h)
  try rw[hx] at hst
  rw[hst];obtain⟨hd1,hd2⟩:=HVD (hRd (by rw[h];rfl) (by rw[h];rfl))
  have HC:Hid (∀(AI:Option Addr) (cI:Nat) (W:World),Below w.heap.size w W→x.args.length≤cI→Sl Lay.int W AI x.args→Calls Tryz.prog 96 #[.pointer (some ⟨gm,0,none⟩),.pointer (some ⟨gF,r.length*8,none⟩),.agg #[.int .i64 x.op,.int .i64 x.dst,.int .i64 x.a,.int .i64 x.b,.int .i64 x.n,.string x.cls,.string x.name,.slice AI x.args.length cI,.int .i64 x.jmp,.int .i64 x.hnd]] W fun e w'=>e = .returned (.tuple #[])∧MNf u w0 gm AC AF cC cF gF r.length cFr b4 b5 k { m with frs:={ f with vals:=f.vals.set x.dst.toNat (rdV (zb u f.fn) f.vals x.a)}::r} w'):=v9h (fun AI cI W hb _ _=>by
   have HW:=H.mono hb;obtain⟨g',q',hgs',hfr'⟩:=HW.frm hf;injection hgs' with e1 e2
   subst e1 e2;exact(ahH W w0.heap.size gF cFr g (.pointer (some ⟨gm,0,none⟩)) vO f r q m.obs x AI cI x.dst.toNat h (rdV (zb u f.fn) f.vals x.a) (HRW x.a (hRa (by rw[h];rfl) (Or.inl (by omega))) W hb) hd1 hd2 hfr' HW.ob).mono (fun e w' hh=>⟨hh.1,by have h2:=hh.2;exact HW.as h2⟩))
  exact(jo u w0 w gm AC AF cC cF _ _ gF cFr b4 b5 k m _ bs f r x H hf hrl hT.fn hT.at_ hx (by omega) k { m with frs:={ f with vals:=f.vals.set x.dst.toNat (rdV (zb u f.fn) f.vals x.a)}::r} { f with vals:=f.vals.set x.dst.toNat (rdV (zb u f.fn) f.vals x.a)} rfl hatl HC).mono (fun e w' hh=>⟨hh.1,hh.2.more (by omega)⟩)
 ·have hst:=aaH (u:=u) (m:=m) (f:=f) (r:=r) (by rw[hx];exact h)
  try rw[hx] at hst
  rw[hst];obtain⟨hd1,hd2⟩:=HVD (hRd (by rw[h];rfl) (by rw[h];rfl))
  have HC:Hid (∀(AI:Option Addr) (cI:Nat) (W:World),Below w.heap.size w W→x.args.length≤cI→Sl Lay.int W AI x.args→Calls Tryz.prog 96 #[.pointer (some ⟨gm,0,none⟩),.pointer (some ⟨gF,r.length*8,none⟩),.agg #[.int .i64 x.op,.int .i64 x.dst,.int .i64 x.a,.int .i64 x.b,.int .i64 x.n,.string x.cls,.string x.name,.slice AI x.args.length cI,.int .i64 x.jmp,.int .i64 x.hnd]] W fun e w'=>e = .returned (.tuple #[])∧MNf u w0 gm AC AF cC cF gF r.length cFr b4 b5 k { m with frs:={ f with vals:=f.vals.set x.dst.toNat (binV (rdV (zb u f.fn) f.vals x.a) (rdV (zb u f.fn) f.vals x.b) x.n)}::r} w'):=v9h (fun AI cI W hb _ _=>by
   have HW:=H.mono hb;obtain⟨g',q',hgs',hfr'⟩:=HW.frm hf;injection hgs' with e1 e2
   subst e1 e2;exact(ahJ W w0.heap.size gF cFr g (.pointer (some ⟨gm,0,none⟩)) vO f r q m.obs x AI cI x.dst.toNat h (rdV (zb u f.fn) f.vals x.a) (rdV (zb u f.fn) f.vals x.b) (HRW x.a (hRa (by rw[h];rfl) (Or.inl (by omega))) W hb) (HRW x.b (hRb (by rw[h];rfl)) W hb) hd1 hd2 hfr' HW.ob).mono (fun e w' hh=>⟨hh.1,by have h2:=hh.2;exact HW.as h2⟩))
  exact(jo u w0 w gm AC AF cC cF _ _ gF cFr b4 b5 k m _ bs f r x H hf hrl hT.fn hT.at_ hx (by omega) k { m with frs:={ f with vals:=f.vals.set x.dst.toNat (binV (rdV (zb u f.fn) f.vals x.a) (rdV (zb u f.fn) f.vals x.b) x.n)}::r} { f with vals:=f.vals.set x.dst.toNat (binV (rdV (zb u f.fn) f.vals x.a) (rdV (zb u f.fn) f.vals x.b) x.n)} rfl hatl HC).mono (fun e w' hh=>⟨hh.1,hh.2.more (by omega)⟩)
 ·obtain⟨AL,cL,hvI,hcL,hS0⟩:=H.inp
  subst hvI;have hst:=aaI (u:=u) (m:=m) (f:=f) (r:=r) (by rw[hx];exact h)
  try rw[hx] at hst
  rw[hst];obtain⟨hd1,hd2⟩:=HVD (hRd (by rw[h];rfl) (by rw[h];rfl))
  have HC:Hid (∀(AI:Option Addr) (cI:Nat) (W:World),Below w.heap.size w W→x.args.length≤cI→Sl Lay.int W AI x.args→Calls Tryz.prog 96 #[.pointer (some ⟨gm,0,none⟩),.pointer (some ⟨gF,r.length*8,none⟩),.agg #[.int .i64 x.op,.int .i64 x.dst,.int .i64 x.a,.int .i64 x.b,.int .i64 x.n,.string x.cls,.string x.name,.slice AI x.args.length cI,.int .i64 x.jmp,.int .i64 x.hnd]] W fun e w'=>e = .returned (.tuple #[])∧MNf u w0 gm AC AF cC cF gF r.length cFr b4 b5 k { m with inp:=m.inp.tail,frs:={ f with vals:=f.vals.set x.dst.toNat (1,m.inp.headD 0,0)}::r} w'):=v9h (fun AI cI W hb _ _=>by
   have HW:=H.mono hb;obtain⟨g',q',hgs',hfr'⟩:=HW.frm hf;injection hgs' with e1 e2
   subst e1 e2;exact(ahK W w0.heap.size gm gF cFr g _ _ _ _ _ _ vO _ vO f r q m.obs x AI cI x.dst.toNat h AL cL m.inp (hS0.mono HW.hw) hcL hin hd1 hd2 H.hB HW.bm hfr' HW.ob).mono (fun e w' hh=>⟨hh.1,by have h2:=hh.2;exact HW.as5 h2 hS0⟩))
  exact(jo u w0 w gm AC AF cC cF _ _ gF cFr b4 b5 k m _ bs f r x H hf hrl hT.fn hT.at_ hx (by omega) k { m with inp:=m.inp.tail,frs:={ f with vals:=f.vals.set x.dst.toNat (1,m.inp.headD 0,0)}::r} { f with vals:=f.vals.set x.dst.toNat (1,m.inp.headD 0,0)} rfl hatl HC).mono (fun e w' hh=>⟨hh.1,hh.2.more (by omega)⟩)
 ·have hst:=aaJ (u:=u) (m:=m) (f:=f) (r:=r) (by rw[hx];exact h)
  try rw[hx] at hst
  rw[hst];obtain⟨hd1,hd2⟩:=HVD (hRd (by rw[h];rfl) (by rw[h];rfl))
  have HC:Hid (∀(AI:Option Addr) (cI:Nat) (W:World),Below w.heap.size w W→x.args.length≤cI→Sl Lay.int W AI x.args→Calls Tryz.prog 96 #[.pointer (some ⟨gm,0,none⟩),.pointer (some ⟨gF,r.length*8,none⟩),.agg #[.int .i64 x.op,.int .i64 x.dst,.int .i64 x.a,.int .i64 x.b,.int .i64 x.n,.string x.cls,.string x.name,.slice AI x.args.length cI,.int .i64 x.jmp,.int .i64 x.hnd]] W fun e w'=>e = .returned (.tuple #[])∧MNf u w0 gm AC AF cC cF gF r.length cFr b4 b5 (k+1) { m with objs:=m.objs++[qy u x.cls],frs:={ f with vals:=f.vals.set x.dst.toNat (3,(m.objs.length:Int),(siteNo u f.fn f.at_:Int))}::r} w'):=v9h (fun AI cI W hb _ _=>by
   have HW:=H.mono hb;obtain⟨g',q',hgs',hfr'⟩:=HW.frm hf;injection hgs' with e1 e2
   subst e1 e2;exact(ahL u W w0.heap.size gm gF cFr g b4 b5 k _ _ _ _ _ vO _ vO f r q m.obs m.objs bs x AI cI x.dst.toNat h hd1 hd2 H.hB HW.hw.size HW.bm hfr' HW.ob HW.oj (by omega) (H.mlo b5 (by simp)) HW.si (fun e=>H.dis (by rw[e];simp)) (siteNo u f.fn f.at_) hT.fn (by have:=HU.u.hfl;omega) hT.at_ hatl (by rw[hx];exact h) rfl).mono (fun e w' hh=>⟨hh.1,by have h2:=hh.2;exact HW.as6 h2⟩))
  exact(jo u w0 w gm AC AF cC cF _ _ gF cFr b4 b5 k m _ bs f r x H hf hrl hT.fn hT.at_ hx (by omega) (k+1) { m with objs:=m.objs++[qy u x.cls],frs:={ f with vals:=f.vals.set x.dst.toNat (3,(m.objs.length:Int),(siteNo u f.fn f.at_:Int))}::r} { f with vals:=f.vals.set x.dst.toNat (3,(m.objs.length:Int),(siteNo u f.fn f.at_:Int))} rfl hatl HC).mono (fun e w' hh=>⟨hh.1,hh.2.more (by omega)⟩)
 ·have hst:=aaK (u:=u) (m:=m) (f:=f) (r:=r) (by rw[hx];exact h)
  rw[hx] at hst;rw[hst];clear hst;have hva:=hRa (by rw[h];rfl) (Or.inl (by omega));obtain⟨hd1,hd2⟩:=HVD (hRd (by rw[h];rfl) (by rw[h];rfl))
  by_cases h3:(rdV (zb u f.fn) f.vals x.a).1=3
  ·rw[if_pos h3]
   rw[jX (Or.inl h)] at ht;obtain⟨h1,h2⟩:=kz ht;obtain⟨c,hrc,hsub⟩:=(hT.rd hva).ref h3;obtain⟨j,hj,e,eo,ec⟩:=hrc.obj;rw[←hx] at h2 hsub;have hfe:=xY HU hT h2 hsub;rw[hx] at hfe h2;have hfl:(zz u.classes m.objs[j].cls x.name).2.2=true:=by rw[ec,hfe];exact h2
   have hv:(rdV (zb u f.fn) f.vals x.a)=(3,(j:Int),(rdV (zb u f.fn) f.vals x.a).2.2):=by rw[←h3,←e]
   have HA:Hid (∀(AI:Option Addr) (cI:Nat) (W:World),Below w.heap.size w W→x.args.length≤cI→Sl Lay.int W AI x.args→Calls Tryz.prog 95 #[.pointer (some ⟨gm,0,none⟩),.pointer (some ⟨gF,r.length*8,none⟩),.agg #[.int .i64 x.op,.int .i64 x.dst,.int .i64 x.a,.int .i64 x.b,.int .i64 x.n,.string x.cls,.string x.name,.slice AI x.args.length cI,.int .i64 x.jmp,.int .i64 x.hnd]] W fun e w'=>e = .returned (.tuple #[])∧MNx u w0 gm AC AF cC cF b4 b5 k { m with frs:=f.st x.dst ((kr m (rdV (zb u f.fn) f.vals x.a)).val x.name)::r} w'):=v9h (fun AI cI W hb _ _=>by
    have HW:=H.mono hb;have HQ:=HRW x.a hva W hb;rw[hv] at HQ;refine(ahM u w0 W gm AC AF cC cF _ _ gF cFr b4 b5 k m _ bs f r x AI cI HW hf j x.dst.toNat _ HQ h hj (by omega) hd1 hd2 (ah8 H.un.hok hfl) (af5 H.un.hok (hW.objc j hj)) hatl hfl).mono (fun e w' hh=>⟨hh.1,?_⟩);rw[eo];exact hh.2)
   exact(agU u w0 w gm AC AF cC cF _ _ gF cFr b4 b5 k m _ bs f r x H hf hrl hT.fn hT.at_ hx h k _ HA).mono (fun e w' hh=>⟨hh.1,hh.2.more (by omega)⟩)
  ·rw[if_neg h3]
   have HA:Hid (∀(AI:Option Addr) (cI:Nat) (W:World),Below w.heap.size w W→x.args.length≤cI→Sl Lay.int W AI x.args→Calls Tryz.prog 95 #[.pointer (some ⟨gm,0,none⟩),.pointer (some ⟨gF,r.length*8,none⟩),.agg #[.int .i64 x.op,.int .i64 x.dst,.int .i64 x.a,.int .i64 x.b,.int .i64 x.n,.string x.cls,.string x.name,.slice AI x.args.length cI,.int .i64 x.jmp,.int .i64 x.hnd]] W fun e w'=>e = .returned (.tuple #[])∧MNx u w0 gm AC AF cC cF b4 b5 k { m with en:=3} w'):=v9h (fun AI cI W hb _ _=>by
    have HW:=H.mono hb;exact aa2 u w0 W gm AC AF cC cF _ _ gF cFr b4 b5 k m _ bs f r x AI cI HW hf _ (HRW x.a hva W hb) h3)
   exact(agU u w0 w gm AC AF cC cF _ _ gF cFr b4 b5 k m _ bs f r x H hf hrl hT.fn hT.at_ hx h k _ HA).mono (fun e w' hh=>⟨hh.1,hh.2.more (by omega)⟩)
 ·have hst:=aaL (u:=u) (m:=m) (f:=f) (r:=r) (by rw[hx];exact h)
  rw[hx] at hst;rw[hst];clear hst;have hva:=hRa (by rw[h];rfl) (Or.inl (by omega));have hvb:=hRb (by rw[h];rfl)
  by_cases h3:(rdV (zb u f.fn) f.vals x.a).1=3
  ·rw[if_pos h3]
   rw[jX (Or.inr h)] at ht;obtain⟨h1,h2⟩:=kz ht;obtain⟨c,hrc,hsub⟩:=(hT.rd hva).ref h3;obtain⟨j,hj,e,eo,ec⟩:=hrc.obj;rw[←hx] at h2 hsub;have hfe:=xY HU hT h2 hsub;rw[hx] at hfe h2;have hfl:(zz u.classes m.objs[j].cls x.name).2.2=true:=by rw[ec,hfe];exact h2
   have hv:(rdV (zb u f.fn) f.vals x.a)=(3,(j:Int),(rdV (zb u f.fn) f.vals x.a).2.2):=by rw[←h3,←e]
   have HA:Hid (∀(AI:Option Addr) (cI:Nat) (W:World),Below w.heap.size w W→x.args.length≤cI→Sl Lay.int W AI x.args→Calls Tryz.prog 95 #[.pointer (some ⟨gm,0,none⟩),.pointer (some ⟨gF,r.length*8,none⟩),.agg #[.int .i64 x.op,.int .i64 x.dst,.int .i64 x.a,.int .i64 x.b,.int .i64 x.n,.string x.cls,.string x.name,.slice AI x.args.length cI,.int .i64 x.jmp,.int .i64 x.hnd]] W fun e w'=>e = .returned (.tuple #[])∧MNx u w0 gm AC AF cC cF b4 b5 (k+1) { m with objs:=putO m (rdV (zb u f.fn) f.vals x.a) x.name (rdV (zb u f.fn) f.vals x.b),frs:=f.nx::r} w'):=v9h (fun AI cI W hb _ _=>by
    have HW:=H.mono hb;have HQ:=HRW x.a hva W hb;rw[hv] at HQ;refine(ahN u w0 W gm AC AF cC cF _ _ gF cFr b4 b5 k m _ bs f r x AI cI HW hf j _ HQ h hj (by omega) (by omega) (ah8 H.un.hok hfl) hatl _ (HRW x.b hvb W hb)).mono (fun e' w' hh=>⟨hh.1,?_⟩);unfold putO;rw[eo,e,Int.toNat_natCast];exact hh.2)
   exact(agV u w0 w gm AC AF cC cF _ _ gF cFr b4 b5 k m _ bs f r x H hf hrl hT.fn hT.at_ hx h (k+1) _ HA).mono (fun e w' hh=>⟨hh.1,hh.2.more (by omega)⟩)
  ·rw[if_neg h3]
   have HA:Hid (∀(AI:Option Addr) (cI:Nat) (W:World),Below w.heap.size w W→x.args.length≤cI→Sl Lay.int W AI x.args→Calls Tryz.prog 95 #[.pointer (some ⟨gm,0,none⟩),.pointer (some ⟨gF,r.length*8,none⟩),.agg #[.int .i64 x.op,.int .i64 x.dst,.int .i64 x.a,.int .i64 x.b,.int .i64 x.n,.string x.cls,.string x.name,.slice AI x.args.length cI,.int .i64 x.jmp,.int .i64 x.hnd]] W fun e w'=>e = .returned (.tuple #[])∧MNx u w0 gm AC AF cC cF b4 b5 k { m with en:=3} w'):=v9h (fun AI cI W hb _ _=>by
    have HW:=H.mono hb;exact aa2 u w0 W gm AC AF cC cF _ _ gF cFr b4 b5 k m _ bs f r x AI cI HW hf _ (HRW x.a hva W hb) h3)
   exact(agV u w0 w gm AC AF cC cF _ _ gF cFr b4 b5 k m _ bs f r x H hf hrl hT.fn hT.at_ hx h k _ HA).mono (fun e w' hh=>⟨hh.1,hh.2.more (by omega)⟩)
 ·have hst:=aaM (u:=u) (m:=m) (f:=f) (r:=r) (by rw[hx];exact h)
  rw[hx] at hst;rw[hst];clear hst;have hva:=hRa (by rw[h];rfl) (Or.inl (by omega))
  by_cases h3:(rdV (zb u f.fn) f.vals x.a).1=3
  ·rw[if_pos h3]
   obtain⟨c,hrc,hsub⟩:=(hT.rd hva).ref h3;obtain⟨j,hj,e,eo,ec⟩:=hrc.obj;have hv:(rdV (zb u f.fn) f.vals x.a)=(3,(j:Int),(rdV (zb u f.fn) f.vals x.a).2.2):=by rw[←h3,←e]
   obtain⟨kk,hV⟩:=acS HU hT (by rw[hx];exact h) (by rw[hx];exact h3);have hklt:=hV.lt
   have HA:Hid (∀(AI:Option Addr) (cI:Nat) (W:World),Below w.heap.size w W→x.args.length≤cI→Sl Lay.int W AI x.args→Calls Tryz.prog 91 #[.pointer (some ⟨gm,0,none⟩),.pointer (some ⟨gF,r.length*8,none⟩),.agg #[.int .i64 x.op,.int .i64 x.dst,.int .i64 x.a,.int .i64 x.b,.int .i64 x.n,.string x.cls,.string x.name,.slice AI x.args.length cI,.int .i64 x.jmp,.int .i64 x.hnd]] W fun e w'=>e = .returned (.tuple #[])∧MNx u w0 gm AC AF cC cF b4 b5 (k+1) (yO u m (zb u f.fn) f x) w'):=v9h (fun AI cI W hb hcI hsI=>by
    have HW:=H.mono hb
    by_cases h64:64≤m.frs.length
    ·have e5:yO u m (zb u f.fn) f x={ m with en:=5}:=by unfold yO;rw[if_pos h64]
     rw[e5];exact(acV u w0 W gm AC AF cC cF _ _ gF cFr b4 b5 k m _ bs f r x AI cI HW hf (by rw[hf,List.length_cons] at h64;omega)).mono (fun e w' hh=>⟨hh.1,hh.2.more (by omega)⟩)
    ·have hkv:u.funcs[kk].vars.length≤256:=by
      obtain⟨p',_,hF'⟩:=qA HU.u hV.lt;have:=hF'.vl;rw[zv hV.lt] at this;exact this
     have hargs:x.args.length+1≤u.funcs[kk].vars.length:=by
      rw[←zv hV.lt];have:=hV.len;rw[hx] at this;unfold yW at this;rw[if_pos h,List.length_append,List.length_map] at this
      simpa[Nat.add_comm] using this
     have hal:x.args.length≤1000:=by omega
     have HQ:=HRW x.a hva W hb;rw[hv] at HQ
     have hcal:kK u.classes u.funcs m.objs[j].cls x.name=(kk:Int):=by
      have:=hV.callee;rw[hx] at this;unfold qS at this;rw[if_pos h,eo] at this;exact this
     have hM:yO u m (zb u f.fn) f x={ m with frs:=frN kk m.made ((m.obs.length:Int)-1) (((3,(j:Int),(rdV (zb u f.fn) f.vals x.a).2.2)::x.args.map (rdV (zb u f.fn) f.vals))++List.replicate (u.funcs[kk].vars.length-(x.args.length+1)) (0,0,0))::m.frs,made:=m.made+1}:=by
      have hc:=hV.callee;rw[hx] at hc
      have ha:yW (zb u f.fn) f x=(3,(j:Int),(rdV (zb u f.fn) f.vals x.a).2.2)::x.args.map (rdV (zb u f.fn) f.vals):=by
       unfold yW;rw[if_pos h,←hv]
       rfl
      unfold yO abM frN;rw[if_neg h64,hc,Int.toNat_natCast,ha,zv hV.lt,List.length_cons,List.length_map]
     exact ajm u w0 W gm AC AF cC cF _ _ gF cFr b4 b5 k m _ bs f r x AI cI HW hf h (by rw[hf,List.length_cons] at h64;omega) kk hV.lt hkv (zb u f.fn) hcI hsI hal (by omega) (by omega) (v9h (fun i hi W' hb'=>(HRW x.args[i] (hRg _ (List.getElem_mem hi)) W hb).out W' hb')) j _ HQ hj (af5 H.un.hok (hW.objc j hj)) hargs hcal _ (v9h hM))
   exact(ajo u w0 w gm AC AF cC cF _ _ gF cFr b4 b5 k m _ bs f r x H hf hrl hT.fn hT.at_ hx h _ (HRD x.a hva) h3 (k+1) _ HA).mono (fun e w' hh=>⟨hh.1,hh.2.more (by omega)⟩)
  ·rw[if_neg h3]
   exact(aiR u w0 w gm AC AF cC cF _ _ gF cFr b4 b5 k m _ bs f r x H hf hrl hT.fn hT.at_ hx h _ (HRD x.a hva) h3).mono (fun e w' hh=>⟨hh.1,hh.2.more (by omega)⟩)
 ·have hst:=xR (u:=u) (m:=m) (f:=f) (r:=r) (by rw[hx];exact h)
  rw[hx] at hst;rw[hst];clear hst;obtain⟨kk,hV⟩:=acR HU hT (by rw[hx];exact h);have hklt:=hV.lt
  have HA:Hid (∀(AI:Option Addr) (cI:Nat) (W:World),Below w.heap.size w W→x.args.length≤cI→Sl Lay.int W AI x.args→Calls Tryz.prog 91 #[.pointer (some ⟨gm,0,none⟩),.pointer (some ⟨gF,r.length*8,none⟩),.agg #[.int .i64 x.op,.int .i64 x.dst,.int .i64 x.a,.int .i64 x.b,.int .i64 x.n,.string x.cls,.string x.name,.slice AI x.args.length cI,.int .i64 x.jmp,.int .i64 x.hnd]] W fun e w'=>e = .returned (.tuple #[])∧MNx u w0 gm AC AF cC cF b4 b5 (k+1) (yO u m (zb u f.fn) f x) w'):=v9h (fun AI cI W hb hcI hsI=>by
   have HW:=H.mono hb
   by_cases h64:64≤m.frs.length
   ·have e5:yO u m (zb u f.fn) f x={ m with en:=5}:=by unfold yO;rw[if_pos h64]
    rw[e5];exact(acV u w0 W gm AC AF cC cF _ _ gF cFr b4 b5 k m _ bs f r x AI cI HW hf (by rw[hf,List.length_cons] at h64;omega)).mono (fun e w' hh=>⟨hh.1,hh.2.more (by omega)⟩)
   ·have hkv:u.funcs[kk].vars.length≤256:=by
     obtain⟨p',_,hF'⟩:=qA HU.u hV.lt;have:=hF'.vl;rw[zv hV.lt] at this;exact this
    have hargs:x.args.length≤u.funcs[kk].vars.length:=by
     rw[←zv hV.lt];have:=hV.len;rw[hx] at this;unfold yW at this;rw[if_neg (by omega),List.length_append,List.length_map] at this
     simpa using this
    have hal:x.args.length≤1000:=by omega
    have hcal:qE u.funcs x.cls x.name=(kk:Int):=by
     have:=hV.callee;rw[hx] at this;unfold qS at this;rw[if_neg (by omega)] at this;exact this
    have hM:yO u m (zb u f.fn) f x={ m with frs:=frN kk m.made ((m.obs.length:Int)-1) ((x.args.map (rdV (zb u f.fn) f.vals))++List.replicate (u.funcs[kk].vars.length-x.args.length) (0,0,0))::m.frs,made:=m.made+1}:=by
     have hc:=hV.callee;rw[hx] at hc
     have ha:yW (zb u f.fn) f x=x.args.map (rdV (zb u f.fn) f.vals):=by
      unfold yW;rw[if_neg (by omega)]
      rfl
     unfold yO abM frN;rw[if_neg h64,hc,Int.toNat_natCast,ha,zv hV.lt,List.length_map]
    exact aiN u w0 W gm AC AF cC cF _ _ gF cFr b4 b5 k m _ bs f r x AI cI HW hf h (by rw[hf,List.length_cons] at h64;omega) kk hV.lt hkv (zb u f.fn) hcI hsI hal (by omega) (by omega) (v9h (fun i hi W' hb'=>(HRW x.args[i] (hRg _ (List.getElem_mem hi)) W hb).out W' hb')) hargs hcal _ (v9h hM))
  exact(aiO u w0 w gm AC AF cC cF _ _ gF cFr b4 b5 k m _ bs f r x H hf hrl hT.fn hT.at_ hx h (k+1) _ HA).mono (fun e w' hh=>⟨hh.1,hh.2.more (by omega)⟩)
 ·have hst:=xS (u:=u) (m:=m) (f:=f) (r:=r) (by rw[hx];exact h)
  rw[hx] at hst;rw[hst];clear hst;have hva:=hRa (by rw[h];rfl) (Or.inl (by omega));obtain⟨j0,_,_⟩:=hC.jump (Or.inl (by rw[hx];exact h));rw[hx] at j0;have hjn:x.jmp=(x.jmp.toNat:Int):=by omega
  by_cases hz:(rdV (zb u f.fn) f.vals x.a).2.1=0
  ·rw[if_pos hz]
   exact(ahO u w0 w gm AC AF cC cF _ _ gF cFr b4 b5 k m _ bs f r x H hf hrl hT.fn hT.at_ hx h _ (HRD x.a hva) hz hatl _ hjn).mono (fun e w' hh=>⟨hh.1,hh.2.more (by omega)⟩)
  ·rw[if_neg hz]
   exact(ahP u w0 w gm AC AF cC cF _ _ gF cFr b4 b5 k m _ bs f r x H hf hrl hT.fn hT.at_ hx h _ (HRD x.a hva) hz hatl _ hjn).mono (fun e w' hh=>⟨hh.1,hh.2.more (by omega)⟩)
 ·have hst:=xT (u:=u) (m:=m) (f:=f) (r:=r) (by rw[hx];exact h)
  rw[hx] at hst;rw[hst];clear hst;obtain⟨j0,_,_⟩:=hC.jump (Or.inr (by rw[hx];exact h));rw[hx] at j0;exact(aiS u w0 w gm AC AF cC cF _ _ gF cFr b4 b5 k m _ bs f r x H hf hrl hT.fn hT.at_ hx h x.jmp.toNat (by omega)).mono (fun e w' hh=>⟨hh.1,hh.2.more (by omega)⟩)
 ·have hst:=xU (u:=u) (m:=m) (f:=f) (r:=r) (by rw[hx];exact h)
  rw[hx] at hst;rw[hst];clear hst
  have HA:Hid (∀(AI:Option Addr) (cI:Nat) (W:World),Below w.heap.size w W→x.args.length≤cI→Sl Lay.int W AI x.args→Calls Tryz.prog 92 #[.pointer (some ⟨gm,0,none⟩),.pointer (some ⟨gF,r.length*8,none⟩),.agg #[.int .i64 x.op,.int .i64 x.dst,.int .i64 x.a,.int .i64 x.b,.int .i64 x.n,.string x.cls,.string x.name,.slice AI x.args.length cI,.int .i64 x.jmp,.int .i64 x.hnd]] W fun e w'=>e = .returned (.tuple #[])∧MNx u w0 gm AC AF cC cF b4 b5 k (kD u m (zb u f.fn) f r x) w'):=v9h (fun AI cI W hb _ _=>by
   have HW:=H.mono hb;have hva:x.a≠ -1→varB (zb u f.fn).vars.length x.a=true:=fun hn=>hRa (by rw[h];rfl) (Or.inr hn)
   obtain⟨g',q',hgs',hfr'⟩:=HW.frm hf;injection hgs' with e1 e2
   subst e1 e2
   cases r with
   |nil=>
    exact(agQ W w0.heap.size gm gF cFr _ _ _ _ _ _ _ _ _ f g x AI cI HW.bm (Own.capLe hfr'.row (by rw[je hfr'];rfl)) H.hB (v9h (fun hn W' hb'=>⟨_,by have:=(HRW x.a (hva hn) W hb).out W' hb';exact this⟩))).mono (fun e w' hh=>⟨hh.1,HW.l0 hf hh.2⟩)
   |cons f1 r'=>
    have h1:=hW.frs f1 (by rw[hf];simp);have hR1:=ke HU.u h1.fn h1.at_;have hch:=hW.chain;rw[hf] at hch;obtain⟨pF1,_,hF1⟩:=qA HU.u h1.fn;have hat1:f1.at_≤100000:=by have:=h1.at_;have:=hF1.cl1;omega
    have hy:u.funcs[f1.fn]'h1.fn=zb u f1.fn:=(zv h1.fn).symm;have hat1':f1.at_<(u.funcs[f1.fn]'h1.fn).code.length:=by rw[hy];exact h1.at_
    have hyx:(u.funcs[f1.fn]'h1.fn).code[f1.at_]'hat1'=zh (zb u f1.fn) f1.at_:=by
     rw[zQ h1.at_]
     congr 1
     rw[hy]
    have hdd:(zh (zb u f1.fn) f1.at_).dst = -1∨∃d:Nat,(zh (zb u f1.fn) f1.at_).dst=(d:Int)∧d<f1.vals.length:=by
     rcases Classical.em ((zh (zb u f1.fn) f1.at_).dst = -1) with hm|hm
     ·exact Or.inl hm
     ·have hv:=hR1.dc (by rcases hch.1.call with hc|hc<;>(rw[hc];rfl)) hm
      obtain⟨v0,v1⟩:=yK.1 hv;exact Or.inr ⟨(zh (zb u f1.fn) f1.at_).dst.toNat,by omega,by rw[h1.len];omega⟩
    refine(af4 w0 W gm gF cFr AF cF u.funcs _ _ _ _ _ _ _ _ f f1 r' g q m.obs x AI cI (retV (zb u f.fn) f x) HW.hw HW.un.hf H.hB HW.bm hfr' HW.ob (by rw[List.length_cons] at hrl;omega) h1.fn hat1' hat1 (zh (zb u f1.fn) f1.at_).dst (by rw[hyx]) hdd (v9h (fun hn W' hb'=>by
     have:=(HRW x.a (hva hn) W hb).out W' hb';have e:retV (zb u f.fn) f x=rdV (zb u f.fn) f.vals x.a:=by unfold retV;rw[if_neg hn]
     rw[e];exact this)) (fun hm=>by unfold retV;rw[if_pos hm])).mono (fun e w' hh=>⟨hh.1,?_⟩)
    exact HW.l1 hh.2)
  exact(aiP u w0 w gm AC AF cC cF _ _ gF cFr b4 b5 k m _ bs f r x H hf hrl hT.fn hT.at_ hx h k _ HA).mono (fun e w' hh=>⟨hh.1,hh.2.more (by omega)⟩)
 ·have hst:=xV (u:=u) (m:=m) (f:=f) (r:=r) (by rw[hx];exact h)
  rw[hx] at hst;rw[hst];clear hst;have hva:=hRa (by rw[h];rfl) (Or.inl (by omega))
  by_cases h3:(rdV (zb u f.fn) f.vals x.a).1=3
  ·rw[if_pos h3]
   exact(aiT u w0 w gm AC AF cC cF _ _ gF cFr b4 b5 k m _ bs f r x H hf hrl hT.fn hT.at_ hx h _ (HRD x.a hva) h3 _ (HRS _)).mono (fun e w' hh=>⟨hh.1,hh.2.more (by omega)⟩)
  ·rw[if_neg h3]
   exact(ahQ u w0 w gm AC AF cC cF _ _ gF cFr b4 b5 k m _ bs f r x H hf hrl hT.fn hT.at_ hx h _ (HRD x.a hva) h3).mono (fun e w' hh=>⟨hh.1,hh.2.more (by omega)⟩)
 ·have hst:=xW (u:=u) (m:=m) (f:=f) (r:=r) (by rw[hx];exact h)
  rw[hx] at hst;rw[hst];clear hst;obtain⟨hd1,hd2⟩:=HVD (hRd (by rw[h];rfl) (by rw[h];rfl));obtain⟨c,hrc⟩:=hcat h;obtain⟨j,hj,e,eo,ec⟩:=hrc.obj;have he:f.exc=(3,(j:Int),f.exc.2.2):=by rw[←hrc.1,←e]
  rw[eo];refine(aiQ u w0 w gm AC AF cC cF _ _ gF cFr b4 b5 k m _ bs f r x H hf hrl hT.fn hT.at_ hx h j x.dst.toNat _ he hj (by omega) (af5 H.un.hok (hW.objc j hj)) hd1 hd2 hatl (if hasS (zx u.classes m.objs[j].cls) x.cls=true then{ m with frs:=f.st x.dst f.exc::r} else qH u m f.exc) (fun hs=>?_) (v9h (fun hs W hb=>?_))).mono (fun e w' hh=>⟨hh.1,hh.2.more (by omega)⟩)
  ·rw[if_pos hs,←he]
   rfl
  ·rw[if_neg (by rw[hs];decide)]
   have:=(HRS f.exc).out W hb;rw[show vlV f.exc = .agg #[.int .i64 3,.int .i64 (j:Int),.int .i64 f.exc.2.2] by rw[he];rfl] at this;exact this
 ·have hst:=xX (u:=u) (m:=m) (f:=f) (r:=r) (by rw[hx];exact h)
  try rw[hx] at hst
  rw[hst];obtain⟨hd1,hd2⟩:=HVD (hRd (by rw[h];rfl) (by rw[h];rfl))
  have HC:Hid (∀(AI:Option Addr) (cI:Nat) (W:World),Below w.heap.size w W→x.args.length≤cI→Sl Lay.int W AI x.args→Calls Tryz.prog 96 #[.pointer (some ⟨gm,0,none⟩),.pointer (some ⟨gF,r.length*8,none⟩),.agg #[.int .i64 x.op,.int .i64 x.dst,.int .i64 x.a,.int .i64 x.b,.int .i64 x.n,.string x.cls,.string x.name,.slice AI x.args.length cI,.int .i64 x.jmp,.int .i64 x.hnd]] W fun e w'=>e = .returned (.tuple #[])∧MNf u w0 gm AC AF cC cF gF r.length cFr b4 b5 k { m with frs:={ f with vals:=f.vals.set x.dst.toNat (1,wrap64 ((rdV (zb u f.fn) f.vals x.a).2.1+x.n),0)}::r} w'):=v9h (fun AI cI W hb _ _=>by
   have HW:=H.mono hb;obtain⟨g',q',hgs',hfr'⟩:=HW.frm hf;injection hgs' with e1 e2
   subst e1 e2;exact(agS W w0.heap.size gF cFr g (.pointer (some ⟨gm,0,none⟩)) vO f r q m.obs x AI cI x.dst.toNat h (rdV (zb u f.fn) f.vals x.a) (HRW x.a (hRa (by rw[h];rfl) (Or.inl (by omega))) W hb) hd1 hd2 hfr' HW.ob).mono (fun e w' hh=>⟨hh.1,by have h2:=hh.2;exact HW.as h2⟩))
  exact(jo u w0 w gm AC AF cC cF _ _ gF cFr b4 b5 k m _ bs f r x H hf hrl hT.fn hT.at_ hx (by omega) k { m with frs:={ f with vals:=f.vals.set x.dst.toNat (1,wrap64 ((rdV (zb u f.fn) f.vals x.a).2.1+x.n),0)}::r} { f with vals:=f.vals.set x.dst.toNat (1,wrap64 ((rdV (zb u f.fn) f.vals x.a).2.1+x.n),0)} rfl hatl HC).mono (fun e w' hh=>⟨hh.1,hh.2.more (by omega)⟩)
end Go.Proofs.YtmhdambkchlilaaGreatDoor
