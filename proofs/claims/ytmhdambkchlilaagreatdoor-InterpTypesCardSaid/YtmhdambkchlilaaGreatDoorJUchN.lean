/- Chapter 13: typer.instr: the error of the types of an instruction. -/
import Derived.Test.YtmhdambkchlilaaGreatDoorJUl
namespace Go.Proofs.YtmhdambkchlilaaGreatDoor
open Go.RowKit
set_option linter.unusedVariables false
set_option maxRecDepth 100000
set_option maxHeartbeats 4000000
structure RgOk(n:Nat)(x:Ins):Prop where
 d:zp x.op 100=true→varB n x.dst=true∨(zp x.op 42=true∧x.dst = -1)
 a:zp x.op 97=true→varB n x.a=true∨(x.op=13∧x.a = -1)
 b:zp x.op 98=true→varB n x.b=true
 s:∀v∈x.args,varB n v=true
structure TyH(w:World)(cs:List Cls)(f:Fun)(x:Ins)(AH AV AI:Option Addr)(cH:Nat):Prop where
 hl:cs.length≤8796093022208
 hcc:cs.length≤cH
 hs:Sl Lay.cls w AH cs
 hok:yQ cs
 hlk:yp cs
 hv:Sl Lay.fld w AV f.vars
 hvo:∀v∈f.vars,zG v.typ
 ha:Sl Lay.int w AI x.args
 hla:x.args.length≤17592186044416
 hg:RgOk f.vars.length x
 hxc:zG x.cls
 hxr:zG f.result
theorem yC(a b:Int):decide (a=b)=(a==b):=by cases h:a==b<;>simp_all
theorem RgOk.dst{n:Nat}{x:Ins}(h:RgOk n x)(h1:zp x.op 100=true)(h2:zp x.op 42=false):varB n x.dst=true:=by
 rcases h.d h1 with h|⟨h,_⟩
 ·exact h
 ·rw[h2] at h;cases h
theorem RgOk.va{n:Nat}{x:Ins}(h:RgOk n x)(h1:zp x.op 97=true)(h2:x.op≠13):varB n x.a=true:=by
 rcases h.a h1 with h|⟨h,_⟩
 ·exact h
 ·exact absurd h h2
structure ai8(w':World)(o:Option Sg)(e:Ending):Prop where
 no:o=none→e = .returned (.tuple #[.string ByteArray.empty,.agg #[.string ByteArray.empty,.bool false,.slice none 0 0,.string ByteArray.empty],.bool false])
 yes:∀g,o=some g→∃(nm:ByteArray) (A:Option Addr) (c:Nat),e = .returned (.tuple #[.string nm,.agg #[.string g.name,.bool g.static,.slice A g.params.length c,.string g.result],.bool true])∧Sl Lay.str w' A g.params
theorem abo.toS{cs:List Cls}{s m:ByteArray}{e:Ending}{w':World}(h:abo cs (zU cs s m) e w'):ai8 w' (sgAt cs (zU cs s m)) e:=by
 rcases kT (cs:=cs) (m:=m) (qj (yb cs s).2).1 with h1|⟨j,k,hj,hk,h1,_,_⟩
 ·have h2:zU cs s m=(-1,-1):=h1
  have h3:sgAt cs (zU cs s m)=none:=by rw[h2];rfl
  exact⟨fun _=>h.no h2,fun g hg=>by rw[h3] at hg;cases hg⟩
 ·have h2:zU cs s m=((j:Int),(k:Int)):=h1
  have h3:sgAt cs (zU cs s m)=some cs[j].methods[k]:=by
   unfold sgAt;rw[h2,if_neg (by show ¬(j:Int)<0;omega)];simp only[Int.toNat_natCast,List.getElem?_eq_getElem hj,Option.bind_some];rw[List.getElem?_eq_getElem hk]
  refine⟨(fun hn=>by rw[h3] at hn;cases hn),fun g hg=>?_⟩;obtain rfl:cs[j].methods[k]=g:=by rw[h3] at hg;exact Option.some.inj hg
  obtain⟨v,hv,A,c,rfl,_,hs⟩:=h.yes j k hj hk h2;exact⟨_,A,c,hv,hs⟩
theorem adC{cs:List Cls}{q:Int×Int}{g:Sg}(h:sgAt cs q=some g):∃x∈cs,g∈x.methods:=by
 unfold sgAt at h
 split at h
 ·cases h
 ·cases hx:cs[q.1.toNat]? with
  |none=>rw[hx] at h;cases h
  |some c=>
   rw[hx] at h;exact⟨c,List.mem_of_getElem? hx,List.mem_of_getElem? h⟩
theorem acC{cs:List Cls}{x:Ins}{g:Sg}(h:qv cs x=some g):∃c∈cs,g∈c.methods:=by
 unfold qv at h
 split at h
 ·cases h
 ·cases hx:cs[(fnd cs x.cls).toNat]? with
  |none=>rw[hx] at h;cases h
  |some c=>
   rw[hx] at h;simp only at h
   split at h
   ·cases h
   ·split at h
    ·rename_i m hm
     split at h
     ·injection h with h;subst h
      exact⟨c,List.mem_of_getElem? hx,List.mem_of_getElem? hm⟩
     ·cases h
    ·cases h
theorem ahZ{cs:List Cls}{g:Sg}(h:∃x∈cs,g∈x.methods)(hok:yQ cs)(hlk:yp cs):g.params.length≤8796093022208∧zG g.result:=by
 obtain⟨c,hc,hg⟩:=h;exact⟨(hlk c hc).2.2 g hg,((hok c hc).2.2 g hg).2.1⟩
theorem afv(cs:List Cls)(f:Fun)(x:Ins)(AH AV AC AI:Option Addr)(cH cV cC cI:Nat)(w:World)(H:Hid (TyH w cs f x AH AV AI cH))(hop:x.op=0) :
  Calls Tryz.prog 157 #[.agg #[.slice AH cs.length cH,.string f.cls,.string f.name,.bool f.static,.int .i64 f.nparams,.slice AV f.vars.length cV,.string f.result,.slice AC f.code.length cC],.agg #[.int .i64 x.op,.int .i64 x.dst,.int .i64 x.a,.int .i64 x.b,.int .i64 x.n,.string x.cls,.string x.name,.slice AI x.args.length cI,.int .i64 x.jmp,.int .i64 x.hnd]] w fun e w'=>e = .returned (.int .i64 (insT cs f.vars f.result x))∧Below w.heap.size w w':=by
 obtain⟨r,HR⟩:∃r,Hid (r=insT cs f.vars f.result x):=⟨_,v9h rfl⟩
 rw[←HR.out];have HT:Hid (r=0):=by show r=_;rw[HR.out];simp[insT,hop]<;>rfl
 clear HR;have e1:(x.op==1)=false:=by rw[hop];rfl
 have e5:(x.op==5)=false:=by rw[hop];rfl
 have e2:(x.op==2)=false:=by rw[hop];rfl
 have e3:(x.op==3)=false:=by rw[hop];rfl
 have e16:(x.op==16)=false:=by rw[hop];rfl
 have e11:(x.op==11)=false:=by rw[hop];rfl
 have e14:(x.op==14)=false:=by rw[hop];rfl
 have e4:(x.op==4)=false:=by rw[hop];rfl
 have e6:(x.op==6)=false:=by rw[hop];rfl
 have e15:(x.op==15)=false:=by rw[hop];rfl
 have e7:(x.op==7)=false:=by rw[hop];rfl
 have e8:(x.op==8)=false:=by rw[hop];rfl
 have e9:(x.op==9)=false:=by rw[hop];rfl
 have e10:(x.op==10)=false:=by rw[hop];rfl
 have e13:(x.op==13)=false:=by rw[hop];rfl
 have HO:=v9h hop;clear hop
 go_enter Tryz.func157,Tryz.ntmps157
 go_upto_region 1 with fail
 generalize hW:World.alloc _ _=W1 at *
 have hb1:Below w.heap.size w W1:=by rw[←hW];exact(by repeat(first|assumption|exact v9r|apply zc|apply zd|apply zg|apply ze|apply zi))
 have bt:Box W1 w.heap.size [.slice AH cs.length cH,.string f.cls,.string f.name,.bool f.static,.int .i64 f.nparams,.slice AV f.vars.length cV,.string f.result,.slice AC f.code.length cC] 257:=by rw[←hW];exact(by repeat(first|(refine Box.at ?_;(simp;done))|apply Box.drew|apply Box.alloc|assumption))
 have bx:Box W1 (w.heap.size+1) [.int .i64 x.op,.int .i64 x.dst,.int .i64 x.a,.int .i64 x.b,.int .i64 x.n,.string x.cls,.string x.name,.slice AI x.args.length cI,.int .i64 x.jmp,.int .i64 x.hnd] 59:=by rw[←hW];exact(by repeat(first|(refine Box.at ?_;(simp;done))|apply Box.drew|apply Box.alloc|assumption))
 clear hW;have t0:=bt.cell 0 rfl;have t1:=bt.cell 1 rfl;have t2:=bt.cell 2 rfl;have t3:=bt.cell 3 rfl;have t4:=bt.cell 4 rfl;have t5:=bt.cell 5 rfl;have t6:=bt.cell 6 rfl;have t7:=bt.cell 7 rfl;have tl:=bt.lt;have x0:=bx.cell 0 rfl;have x1:=bx.cell 1 rfl;have x2:=bx.cell 2 rfl;have x3:=bx.cell 3 rfl;have x4:=bx.cell 4 rfl;have x5:=bx.cell 5 rfl;have x6:=bx.cell 6 rfl;have x7:=bx.cell 7 rfl;have x8:=bx.cell 8 rfl;have x9:=bx.cell 9 rfl;have xl:=bx.lt
 go_wp2_with fail
 go_ret
 exact⟨by rw[HT.out];rfl,hb1⟩
theorem aez(cs:List Cls)(f:Fun)(x:Ins)(AH AV AC AI:Option Addr)(cH cV cC cI:Nat)(w:World)(H:Hid (TyH w cs f x AH AV AI cH))(hop:x.op=12) :
  Calls Tryz.prog 157 #[.agg #[.slice AH cs.length cH,.string f.cls,.string f.name,.bool f.static,.int .i64 f.nparams,.slice AV f.vars.length cV,.string f.result,.slice AC f.code.length cC],.agg #[.int .i64 x.op,.int .i64 x.dst,.int .i64 x.a,.int .i64 x.b,.int .i64 x.n,.string x.cls,.string x.name,.slice AI x.args.length cI,.int .i64 x.jmp,.int .i64 x.hnd]] w fun e w'=>e = .returned (.int .i64 (insT cs f.vars f.result x))∧Below w.heap.size w w':=by
 obtain⟨r,HR⟩:∃r,Hid (r=insT cs f.vars f.result x):=⟨_,v9h rfl⟩
 rw[←HR.out];have HT:Hid (r=0):=by show r=_;rw[HR.out];simp[insT,hop]<;>rfl
 clear HR;have e1:(x.op==1)=false:=by rw[hop];rfl
 have e5:(x.op==5)=false:=by rw[hop];rfl
 have e2:(x.op==2)=false:=by rw[hop];rfl
 have e3:(x.op==3)=false:=by rw[hop];rfl
 have e16:(x.op==16)=false:=by rw[hop];rfl
 have e11:(x.op==11)=false:=by rw[hop];rfl
 have e14:(x.op==14)=false:=by rw[hop];rfl
 have e4:(x.op==4)=false:=by rw[hop];rfl
 have e6:(x.op==6)=false:=by rw[hop];rfl
 have e15:(x.op==15)=false:=by rw[hop];rfl
 have e7:(x.op==7)=false:=by rw[hop];rfl
 have e8:(x.op==8)=false:=by rw[hop];rfl
 have e9:(x.op==9)=false:=by rw[hop];rfl
 have e10:(x.op==10)=false:=by rw[hop];rfl
 have e13:(x.op==13)=false:=by rw[hop];rfl
 have HO:=v9h hop;clear hop
 go_enter Tryz.func157,Tryz.ntmps157
 go_upto_region 1 with fail
 generalize hW:World.alloc _ _=W1 at *
 have hb1:Below w.heap.size w W1:=by rw[←hW];exact(by repeat(first|assumption|exact v9r|apply zc|apply zd|apply zg|apply ze|apply zi))
 have bt:Box W1 w.heap.size [.slice AH cs.length cH,.string f.cls,.string f.name,.bool f.static,.int .i64 f.nparams,.slice AV f.vars.length cV,.string f.result,.slice AC f.code.length cC] 257:=by rw[←hW];exact(by repeat(first|(refine Box.at ?_;(simp;done))|apply Box.drew|apply Box.alloc|assumption))
 have bx:Box W1 (w.heap.size+1) [.int .i64 x.op,.int .i64 x.dst,.int .i64 x.a,.int .i64 x.b,.int .i64 x.n,.string x.cls,.string x.name,.slice AI x.args.length cI,.int .i64 x.jmp,.int .i64 x.hnd] 59:=by rw[←hW];exact(by repeat(first|(refine Box.at ?_;(simp;done))|apply Box.drew|apply Box.alloc|assumption))
 clear hW;have t0:=bt.cell 0 rfl;have t1:=bt.cell 1 rfl;have t2:=bt.cell 2 rfl;have t3:=bt.cell 3 rfl;have t4:=bt.cell 4 rfl;have t5:=bt.cell 5 rfl;have t6:=bt.cell 6 rfl;have t7:=bt.cell 7 rfl;have tl:=bt.lt;have x0:=bx.cell 0 rfl;have x1:=bx.cell 1 rfl;have x2:=bx.cell 2 rfl;have x3:=bx.cell 3 rfl;have x4:=bx.cell 4 rfl;have x5:=bx.cell 5 rfl;have x6:=bx.cell 6 rfl;have x7:=bx.cell 7 rfl;have x8:=bx.cell 8 rfl;have x9:=bx.cell 9 rfl;have xl:=bx.lt
 go_wp2_with fail
 go_ret
 exact⟨by rw[HT.out];rfl,hb1⟩
theorem afw(cs:List Cls)(f:Fun)(x:Ins)(AH AV AC AI:Option Addr)(cH cV cC cI:Nat)(w:World)(H:Hid (TyH w cs f x AH AV AI cH))(hop:x.op=1) :
  Calls Tryz.prog 157 #[.agg #[.slice AH cs.length cH,.string f.cls,.string f.name,.bool f.static,.int .i64 f.nparams,.slice AV f.vars.length cV,.string f.result,.slice AC f.code.length cC],.agg #[.int .i64 x.op,.int .i64 x.dst,.int .i64 x.a,.int .i64 x.b,.int .i64 x.n,.string x.cls,.string x.name,.slice AI x.args.length cI,.int .i64 x.jmp,.int .i64 x.hnd]] w fun e w'=>e = .returned (.int .i64 (insT cs f.vars f.result x))∧Below w.heap.size w w':=by
 obtain⟨r,HR⟩:∃r,Hid (r=insT cs f.vars f.result x):=⟨_,v9h rfl⟩
 rw[←HR.out];have HT:Hid (r=zM (zu (tyOf f.vars x.dst))):=by show r=_;rw[HR.out];simp[insT,hop]<;>rfl
 clear HR;have e1:(x.op==1)=true:=by rw[hop];rfl
 have e5:(x.op==5)=false:=by rw[hop];rfl
 have e2:(x.op==2)=false:=by rw[hop];rfl
 have e3:(x.op==3)=false:=by rw[hop];rfl
 have e16:(x.op==16)=false:=by rw[hop];rfl
 have e11:(x.op==11)=false:=by rw[hop];rfl
 have e14:(x.op==14)=false:=by rw[hop];rfl
 have e4:(x.op==4)=false:=by rw[hop];rfl
 have e6:(x.op==6)=false:=by rw[hop];rfl
 have e15:(x.op==15)=false:=by rw[hop];rfl
 have e7:(x.op==7)=false:=by rw[hop];rfl
 have e8:(x.op==8)=false:=by rw[hop];rfl
 have e9:(x.op==9)=false:=by rw[hop];rfl
 have e10:(x.op==10)=false:=by rw[hop];rfl
 have e13:(x.op==13)=false:=by rw[hop];rfl
 have HO:=v9h hop;clear hop
 go_enter Tryz.func157,Tryz.ntmps157
 go_upto_region 1 with fail
 generalize hW:World.alloc _ _=W1 at *
 have hb1:Below w.heap.size w W1:=by rw[←hW];exact(by repeat(first|assumption|exact v9r|apply zc|apply zd|apply zg|apply ze|apply zi))
 have bt:Box W1 w.heap.size [.slice AH cs.length cH,.string f.cls,.string f.name,.bool f.static,.int .i64 f.nparams,.slice AV f.vars.length cV,.string f.result,.slice AC f.code.length cC] 257:=by rw[←hW];exact(by repeat(first|(refine Box.at ?_;(simp;done))|apply Box.drew|apply Box.alloc|assumption))
 have bx:Box W1 (w.heap.size+1) [.int .i64 x.op,.int .i64 x.dst,.int .i64 x.a,.int .i64 x.b,.int .i64 x.n,.string x.cls,.string x.name,.slice AI x.args.length cI,.int .i64 x.jmp,.int .i64 x.hnd] 59:=by rw[←hW];exact(by repeat(first|(refine Box.at ?_;(simp;done))|apply Box.drew|apply Box.alloc|assumption))
 clear hW;have hvd:=H.out.hg.dst (by rw[HO.out];rfl) (by rw[HO.out];rfl);have t0:=bt.cell 0 rfl;have t1:=bt.cell 1 rfl;have t2:=bt.cell 2 rfl;have t3:=bt.cell 3 rfl;have t4:=bt.cell 4 rfl;have t5:=bt.cell 5 rfl;have t6:=bt.cell 6 rfl;have t7:=bt.cell 7 rfl;have tl:=bt.lt;have x0:=bx.cell 0 rfl;have x1:=bx.cell 1 rfl;have x2:=bx.cell 2 rfl;have x3:=bx.cell 3 rfl;have x4:=bx.cell 4 rfl;have x5:=bx.cell 5 rfl;have x6:=bx.cell 6 rfl;have x7:=bx.cell 7 rfl;have x8:=bx.cell 8 rfl;have x9:=bx.cell 9 rfl;have xl:=bx.lt
 go_wp2_with fail
 refine(yG cs f AH AV AC cH cV cC x.dst _ hvd (H.out.hv.mono hb1)).mono ?_;rintro e w2 ⟨rfl,hqw2⟩;have hb2:=za hb1 hqw2;generalize zu (tyOf f.vars x.dst)=bd at *
 go_wp2_with fail
 refine(zP bd _).mono ?_;rintro e wz ⟨rfl,rfl⟩
 go_wp2_with fail
 go_ret
 exact⟨by rw[HT.out];rfl,hb2⟩
theorem afx(cs:List Cls)(f:Fun)(x:Ins)(AH AV AC AI:Option Addr)(cH cV cC cI:Nat)(w:World)(H:Hid (TyH w cs f x AH AV AI cH))(hop:x.op=5) :
  Calls Tryz.prog 157 #[.agg #[.slice AH cs.length cH,.string f.cls,.string f.name,.bool f.static,.int .i64 f.nparams,.slice AV f.vars.length cV,.string f.result,.slice AC f.code.length cC],.agg #[.int .i64 x.op,.int .i64 x.dst,.int .i64 x.a,.int .i64 x.b,.int .i64 x.n,.string x.cls,.string x.name,.slice AI x.args.length cI,.int .i64 x.jmp,.int .i64 x.hnd]] w fun e w'=>e = .returned (.int .i64 (insT cs f.vars f.result x))∧Below w.heap.size w w':=by
 obtain⟨r,HR⟩:∃r,Hid (r=insT cs f.vars f.result x):=⟨_,v9h rfl⟩
 rw[←HR.out];have HT:Hid (r=zM (zu (tyOf f.vars x.dst))):=by show r=_;rw[HR.out];simp[insT,hop]<;>rfl
 clear HR;have e1:(x.op==1)=false:=by rw[hop];rfl
 have e5:(x.op==5)=true:=by rw[hop];rfl
 have e2:(x.op==2)=false:=by rw[hop];rfl
 have e3:(x.op==3)=false:=by rw[hop];rfl
 have e16:(x.op==16)=false:=by rw[hop];rfl
 have e11:(x.op==11)=false:=by rw[hop];rfl
 have e14:(x.op==14)=false:=by rw[hop];rfl
 have e4:(x.op==4)=false:=by rw[hop];rfl
 have e6:(x.op==6)=false:=by rw[hop];rfl
 have e15:(x.op==15)=false:=by rw[hop];rfl
 have e7:(x.op==7)=false:=by rw[hop];rfl
 have e8:(x.op==8)=false:=by rw[hop];rfl
 have e9:(x.op==9)=false:=by rw[hop];rfl
 have e10:(x.op==10)=false:=by rw[hop];rfl
 have e13:(x.op==13)=false:=by rw[hop];rfl
 have HO:=v9h hop;clear hop
 go_enter Tryz.func157,Tryz.ntmps157
 go_upto_region 1 with fail
 generalize hW:World.alloc _ _=W1 at *
 have hb1:Below w.heap.size w W1:=by rw[←hW];exact(by repeat(first|assumption|exact v9r|apply zc|apply zd|apply zg|apply ze|apply zi))
 have bt:Box W1 w.heap.size [.slice AH cs.length cH,.string f.cls,.string f.name,.bool f.static,.int .i64 f.nparams,.slice AV f.vars.length cV,.string f.result,.slice AC f.code.length cC] 257:=by rw[←hW];exact(by repeat(first|(refine Box.at ?_;(simp;done))|apply Box.drew|apply Box.alloc|assumption))
 have bx:Box W1 (w.heap.size+1) [.int .i64 x.op,.int .i64 x.dst,.int .i64 x.a,.int .i64 x.b,.int .i64 x.n,.string x.cls,.string x.name,.slice AI x.args.length cI,.int .i64 x.jmp,.int .i64 x.hnd] 59:=by rw[←hW];exact(by repeat(first|(refine Box.at ?_;(simp;done))|apply Box.drew|apply Box.alloc|assumption))
 clear hW;have hvd:=H.out.hg.dst (by rw[HO.out];rfl) (by rw[HO.out];rfl);have t0:=bt.cell 0 rfl;have t1:=bt.cell 1 rfl;have t2:=bt.cell 2 rfl;have t3:=bt.cell 3 rfl;have t4:=bt.cell 4 rfl;have t5:=bt.cell 5 rfl;have t6:=bt.cell 6 rfl;have t7:=bt.cell 7 rfl;have tl:=bt.lt;have x0:=bx.cell 0 rfl;have x1:=bx.cell 1 rfl;have x2:=bx.cell 2 rfl;have x3:=bx.cell 3 rfl;have x4:=bx.cell 4 rfl;have x5:=bx.cell 5 rfl;have x6:=bx.cell 6 rfl;have x7:=bx.cell 7 rfl;have x8:=bx.cell 8 rfl;have x9:=bx.cell 9 rfl;have xl:=bx.lt
 go_wp2_with fail
 refine(yG cs f AH AV AC cH cV cC x.dst _ hvd (H.out.hv.mono hb1)).mono ?_;rintro e w2 ⟨rfl,hqw2⟩;have hb2:=za hb1 hqw2;generalize zu (tyOf f.vars x.dst)=bd at *
 go_wp2_with fail
 refine(zP bd _).mono ?_;rintro e wz ⟨rfl,rfl⟩
 go_wp2_with fail
 go_ret
 exact⟨by rw[HT.out];rfl,hb2⟩
theorem afy(cs:List Cls)(f:Fun)(x:Ins)(AH AV AC AI:Option Addr)(cH cV cC cI:Nat)(w:World)(H:Hid (TyH w cs f x AH AV AI cH))(hop:x.op=2) :
  Calls Tryz.prog 157 #[.agg #[.slice AH cs.length cH,.string f.cls,.string f.name,.bool f.static,.int .i64 f.nparams,.slice AV f.vars.length cV,.string f.result,.slice AC f.code.length cC],.agg #[.int .i64 x.op,.int .i64 x.dst,.int .i64 x.a,.int .i64 x.b,.int .i64 x.n,.string x.cls,.string x.name,.slice AI x.args.length cI,.int .i64 x.jmp,.int .i64 x.hnd]] w fun e w'=>e = .returned (.int .i64 (insT cs f.vars f.result x))∧Below w.heap.size w w':=by
 obtain⟨r,HR⟩:∃r,Hid (r=insT cs f.vars f.result x):=⟨_,v9h rfl⟩
 rw[←HR.out];have HT:Hid (r=zM (!zu (tyOf f.vars x.dst))):=by show r=_;rw[HR.out];simp[insT,hop]<;>rfl
 clear HR;have e1:(x.op==1)=false:=by rw[hop];rfl
 have e5:(x.op==5)=false:=by rw[hop];rfl
 have e2:(x.op==2)=true:=by rw[hop];rfl
 have e3:(x.op==3)=false:=by rw[hop];rfl
 have e16:(x.op==16)=false:=by rw[hop];rfl
 have e11:(x.op==11)=false:=by rw[hop];rfl
 have e14:(x.op==14)=false:=by rw[hop];rfl
 have e4:(x.op==4)=false:=by rw[hop];rfl
 have e6:(x.op==6)=false:=by rw[hop];rfl
 have e15:(x.op==15)=false:=by rw[hop];rfl
 have e7:(x.op==7)=false:=by rw[hop];rfl
 have e8:(x.op==8)=false:=by rw[hop];rfl
 have e9:(x.op==9)=false:=by rw[hop];rfl
 have e10:(x.op==10)=false:=by rw[hop];rfl
 have e13:(x.op==13)=false:=by rw[hop];rfl
 have HO:=v9h hop;clear hop
 go_enter Tryz.func157,Tryz.ntmps157
 go_upto_region 1 with fail
 generalize hW:World.alloc _ _=W1 at *
 have hb1:Below w.heap.size w W1:=by rw[←hW];exact(by repeat(first|assumption|exact v9r|apply zc|apply zd|apply zg|apply ze|apply zi))
 have bt:Box W1 w.heap.size [.slice AH cs.length cH,.string f.cls,.string f.name,.bool f.static,.int .i64 f.nparams,.slice AV f.vars.length cV,.string f.result,.slice AC f.code.length cC] 257:=by rw[←hW];exact(by repeat(first|(refine Box.at ?_;(simp;done))|apply Box.drew|apply Box.alloc|assumption))
 have bx:Box W1 (w.heap.size+1) [.int .i64 x.op,.int .i64 x.dst,.int .i64 x.a,.int .i64 x.b,.int .i64 x.n,.string x.cls,.string x.name,.slice AI x.args.length cI,.int .i64 x.jmp,.int .i64 x.hnd] 59:=by rw[←hW];exact(by repeat(first|(refine Box.at ?_;(simp;done))|apply Box.drew|apply Box.alloc|assumption))
 clear hW;have hvd:=H.out.hg.dst (by rw[HO.out];rfl) (by rw[HO.out];rfl);have t0:=bt.cell 0 rfl;have t1:=bt.cell 1 rfl;have t2:=bt.cell 2 rfl;have t3:=bt.cell 3 rfl;have t4:=bt.cell 4 rfl;have t5:=bt.cell 5 rfl;have t6:=bt.cell 6 rfl;have t7:=bt.cell 7 rfl;have tl:=bt.lt;have x0:=bx.cell 0 rfl;have x1:=bx.cell 1 rfl;have x2:=bx.cell 2 rfl;have x3:=bx.cell 3 rfl;have x4:=bx.cell 4 rfl;have x5:=bx.cell 5 rfl;have x6:=bx.cell 6 rfl;have x7:=bx.cell 7 rfl;have x8:=bx.cell 8 rfl;have x9:=bx.cell 9 rfl;have xl:=bx.lt
 go_wp2_with fail
 refine(yG cs f AH AV AC cH cV cC x.dst _ hvd (H.out.hv.mono hb1)).mono ?_;rintro e w2 ⟨rfl,hqw2⟩;have hb2:=za hb1 hqw2;generalize zu (tyOf f.vars x.dst)=bd at *
 go_wp2_with fail
 refine(zP (!bd) _).mono ?_;rintro e wz ⟨rfl,rfl⟩
 go_wp2_with fail
 go_ret
 exact⟨by rw[HT.out];rfl,hb2⟩
theorem aeA(cs:List Cls)(f:Fun)(x:Ins)(AH AV AC AI:Option Addr)(cH cV cC cI:Nat)(w:World)(H:Hid (TyH w cs f x AH AV AI cH))(hop:x.op=11) :
  Calls Tryz.prog 157 #[.agg #[.slice AH cs.length cH,.string f.cls,.string f.name,.bool f.static,.int .i64 f.nparams,.slice AV f.vars.length cV,.string f.result,.slice AC f.code.length cC],.agg #[.int .i64 x.op,.int .i64 x.dst,.int .i64 x.a,.int .i64 x.b,.int .i64 x.n,.string x.cls,.string x.name,.slice AI x.args.length cI,.int .i64 x.jmp,.int .i64 x.hnd]] w fun e w'=>e = .returned (.int .i64 (insT cs f.vars f.result x))∧Below w.heap.size w w':=by
 obtain⟨r,HR⟩:∃r,Hid (r=insT cs f.vars f.result x):=⟨_,v9h rfl⟩
 rw[←HR.out];have HT:Hid (r=zM (zu (tyOf f.vars x.a))):=by show r=_;rw[HR.out];simp[insT,hop]<;>rfl
 clear HR;have e1:(x.op==1)=false:=by rw[hop];rfl
 have e5:(x.op==5)=false:=by rw[hop];rfl
 have e2:(x.op==2)=false:=by rw[hop];rfl
 have e3:(x.op==3)=false:=by rw[hop];rfl
 have e16:(x.op==16)=false:=by rw[hop];rfl
 have e11:(x.op==11)=true:=by rw[hop];rfl
 have e14:(x.op==14)=false:=by rw[hop];rfl
 have e4:(x.op==4)=false:=by rw[hop];rfl
 have e6:(x.op==6)=false:=by rw[hop];rfl
 have e15:(x.op==15)=false:=by rw[hop];rfl
 have e7:(x.op==7)=false:=by rw[hop];rfl
 have e8:(x.op==8)=false:=by rw[hop];rfl
 have e9:(x.op==9)=false:=by rw[hop];rfl
 have e10:(x.op==10)=false:=by rw[hop];rfl
 have e13:(x.op==13)=false:=by rw[hop];rfl
 have HO:=v9h hop;clear hop
 go_enter Tryz.func157,Tryz.ntmps157
 go_upto_region 1 with fail
 generalize hW:World.alloc _ _=W1 at *
 have hb1:Below w.heap.size w W1:=by rw[←hW];exact(by repeat(first|assumption|exact v9r|apply zc|apply zd|apply zg|apply ze|apply zi))
 have bt:Box W1 w.heap.size [.slice AH cs.length cH,.string f.cls,.string f.name,.bool f.static,.int .i64 f.nparams,.slice AV f.vars.length cV,.string f.result,.slice AC f.code.length cC] 257:=by rw[←hW];exact(by repeat(first|(refine Box.at ?_;(simp;done))|apply Box.drew|apply Box.alloc|assumption))
 have bx:Box W1 (w.heap.size+1) [.int .i64 x.op,.int .i64 x.dst,.int .i64 x.a,.int .i64 x.b,.int .i64 x.n,.string x.cls,.string x.name,.slice AI x.args.length cI,.int .i64 x.jmp,.int .i64 x.hnd] 59:=by rw[←hW];exact(by repeat(first|(refine Box.at ?_;(simp;done))|apply Box.drew|apply Box.alloc|assumption))
 clear hW;have hva:=H.out.hg.va (by rw[HO.out];rfl) (by rw[HO.out];decide);have t0:=bt.cell 0 rfl;have t1:=bt.cell 1 rfl;have t2:=bt.cell 2 rfl;have t3:=bt.cell 3 rfl;have t4:=bt.cell 4 rfl;have t5:=bt.cell 5 rfl;have t6:=bt.cell 6 rfl;have t7:=bt.cell 7 rfl;have tl:=bt.lt;have x0:=bx.cell 0 rfl;have x1:=bx.cell 1 rfl;have x2:=bx.cell 2 rfl;have x3:=bx.cell 3 rfl;have x4:=bx.cell 4 rfl;have x5:=bx.cell 5 rfl;have x6:=bx.cell 6 rfl;have x7:=bx.cell 7 rfl;have x8:=bx.cell 8 rfl;have x9:=bx.cell 9 rfl;have xl:=bx.lt
 go_wp2_with fail
 refine(yG cs f AH AV AC cH cV cC x.a _ hva (H.out.hv.mono hb1)).mono ?_;rintro e w2 ⟨rfl,hqw2⟩;have hb2:=za hb1 hqw2;generalize zu (tyOf f.vars x.a)=bd at *
 go_wp2_with fail
 refine(zP bd _).mono ?_;rintro e wz ⟨rfl,rfl⟩
 go_wp2_with fail
 go_ret
 exact⟨by rw[HT.out];rfl,hb2⟩
theorem aeB(cs:List Cls)(f:Fun)(x:Ins)(AH AV AC AI:Option Addr)(cH cV cC cI:Nat)(w:World)(H:Hid (TyH w cs f x AH AV AI cH))(hop:x.op=14) :
  Calls Tryz.prog 157 #[.agg #[.slice AH cs.length cH,.string f.cls,.string f.name,.bool f.static,.int .i64 f.nparams,.slice AV f.vars.length cV,.string f.result,.slice AC f.code.length cC],.agg #[.int .i64 x.op,.int .i64 x.dst,.int .i64 x.a,.int .i64 x.b,.int .i64 x.n,.string x.cls,.string x.name,.slice AI x.args.length cI,.int .i64 x.jmp,.int .i64 x.hnd]] w fun e w'=>e = .returned (.int .i64 (insT cs f.vars f.result x))∧Below w.heap.size w w':=by
 obtain⟨r,HR⟩:∃r,Hid (r=insT cs f.vars f.result x):=⟨_,v9h rfl⟩
 rw[←HR.out];have HT:Hid (r=zM (!zu (tyOf f.vars x.a))):=by show r=_;rw[HR.out];simp[insT,hop]<;>rfl
 clear HR;have e1:(x.op==1)=false:=by rw[hop];rfl
 have e5:(x.op==5)=false:=by rw[hop];rfl
 have e2:(x.op==2)=false:=by rw[hop];rfl
 have e3:(x.op==3)=false:=by rw[hop];rfl
 have e16:(x.op==16)=false:=by rw[hop];rfl
 have e11:(x.op==11)=false:=by rw[hop];rfl
 have e14:(x.op==14)=true:=by rw[hop];rfl
 have e4:(x.op==4)=false:=by rw[hop];rfl
 have e6:(x.op==6)=false:=by rw[hop];rfl
 have e15:(x.op==15)=false:=by rw[hop];rfl
 have e7:(x.op==7)=false:=by rw[hop];rfl
 have e8:(x.op==8)=false:=by rw[hop];rfl
 have e9:(x.op==9)=false:=by rw[hop];rfl
 have e10:(x.op==10)=false:=by rw[hop];rfl
 have e13:(x.op==13)=false:=by rw[hop];rfl
 have HO:=v9h hop;clear hop
 go_enter Tryz.func157,Tryz.ntmps157
 go_upto_region 1 with fail
 generalize hW:World.alloc _ _=W1 at *
 have hb1:Below w.heap.size w W1:=by rw[←hW];exact(by repeat(first|assumption|exact v9r|apply zc|apply zd|apply zg|apply ze|apply zi))
 have bt:Box W1 w.heap.size [.slice AH cs.length cH,.string f.cls,.string f.name,.bool f.static,.int .i64 f.nparams,.slice AV f.vars.length cV,.string f.result,.slice AC f.code.length cC] 257:=by rw[←hW];exact(by repeat(first|(refine Box.at ?_;(simp;done))|apply Box.drew|apply Box.alloc|assumption))
 have bx:Box W1 (w.heap.size+1) [.int .i64 x.op,.int .i64 x.dst,.int .i64 x.a,.int .i64 x.b,.int .i64 x.n,.string x.cls,.string x.name,.slice AI x.args.length cI,.int .i64 x.jmp,.int .i64 x.hnd] 59:=by rw[←hW];exact(by repeat(first|(refine Box.at ?_;(simp;done))|apply Box.drew|apply Box.alloc|assumption))
 clear hW;have hva:=H.out.hg.va (by rw[HO.out];rfl) (by rw[HO.out];decide);have t0:=bt.cell 0 rfl;have t1:=bt.cell 1 rfl;have t2:=bt.cell 2 rfl;have t3:=bt.cell 3 rfl;have t4:=bt.cell 4 rfl;have t5:=bt.cell 5 rfl;have t6:=bt.cell 6 rfl;have t7:=bt.cell 7 rfl;have tl:=bt.lt;have x0:=bx.cell 0 rfl;have x1:=bx.cell 1 rfl;have x2:=bx.cell 2 rfl;have x3:=bx.cell 3 rfl;have x4:=bx.cell 4 rfl;have x5:=bx.cell 5 rfl;have x6:=bx.cell 6 rfl;have x7:=bx.cell 7 rfl;have x8:=bx.cell 8 rfl;have x9:=bx.cell 9 rfl;have xl:=bx.lt
 go_wp2_with fail
 refine(yG cs f AH AV AC cH cV cC x.a _ hva (H.out.hv.mono hb1)).mono ?_;rintro e w2 ⟨rfl,hqw2⟩;have hb2:=za hb1 hqw2;generalize zu (tyOf f.vars x.a)=bd at *
 go_wp2_with fail
 refine(zP (!bd) _).mono ?_;rintro e wz ⟨rfl,rfl⟩
 go_wp2_with fail
 go_ret
 exact⟨by rw[HT.out];rfl,hb2⟩
theorem aeC(cs:List Cls)(f:Fun)(x:Ins)(AH AV AC AI:Option Addr)(cH cV cC cI:Nat)(w:World)(H:Hid (TyH w cs f x AH AV AI cH))(hop:x.op=16) :
  Calls Tryz.prog 157 #[.agg #[.slice AH cs.length cH,.string f.cls,.string f.name,.bool f.static,.int .i64 f.nparams,.slice AV f.vars.length cV,.string f.result,.slice AC f.code.length cC],.agg #[.int .i64 x.op,.int .i64 x.dst,.int .i64 x.a,.int .i64 x.b,.int .i64 x.n,.string x.cls,.string x.name,.slice AI x.args.length cI,.int .i64 x.jmp,.int .i64 x.hnd]] w fun e w'=>e = .returned (.int .i64 (insT cs f.vars f.result x))∧Below w.heap.size w w':=by
 obtain⟨r,HR⟩:∃r,Hid (r=insT cs f.vars f.result x):=⟨_,v9h rfl⟩
 rw[←HR.out];have HT:Hid (r=zM (zu (tyOf f.vars x.a)&&zu (tyOf f.vars x.dst))):=by show r=_;rw[HR.out];simp[insT,hop]<;>rfl
 clear HR;have e1:(x.op==1)=false:=by rw[hop];rfl
 have e5:(x.op==5)=false:=by rw[hop];rfl
 have e2:(x.op==2)=false:=by rw[hop];rfl
 have e3:(x.op==3)=false:=by rw[hop];rfl
 have e16:(x.op==16)=true:=by rw[hop];rfl
 have e11:(x.op==11)=false:=by rw[hop];rfl
 have e14:(x.op==14)=false:=by rw[hop];rfl
 have e4:(x.op==4)=false:=by rw[hop];rfl
 have e6:(x.op==6)=false:=by rw[hop];rfl
 have e15:(x.op==15)=false:=by rw[hop];rfl
 have e7:(x.op==7)=false:=by rw[hop];rfl
 have e8:(x.op==8)=false:=by rw[hop];rfl
 have e9:(x.op==9)=false:=by rw[hop];rfl
 have e10:(x.op==10)=false:=by rw[hop];rfl
 have e13:(x.op==13)=false:=by rw[hop];rfl
 have HO:=v9h hop;clear hop
 go_enter Tryz.func157,Tryz.ntmps157
 go_upto_region 1 with fail
 generalize hW:World.alloc _ _=W1 at *
 have hb1:Below w.heap.size w W1:=by rw[←hW];exact(by repeat(first|assumption|exact v9r|apply zc|apply zd|apply zg|apply ze|apply zi))
 have bt:Box W1 w.heap.size [.slice AH cs.length cH,.string f.cls,.string f.name,.bool f.static,.int .i64 f.nparams,.slice AV f.vars.length cV,.string f.result,.slice AC f.code.length cC] 257:=by rw[←hW];exact(by repeat(first|(refine Box.at ?_;(simp;done))|apply Box.drew|apply Box.alloc|assumption))
 have bx:Box W1 (w.heap.size+1) [.int .i64 x.op,.int .i64 x.dst,.int .i64 x.a,.int .i64 x.b,.int .i64 x.n,.string x.cls,.string x.name,.slice AI x.args.length cI,.int .i64 x.jmp,.int .i64 x.hnd] 59:=by rw[←hW];exact(by repeat(first|(refine Box.at ?_;(simp;done))|apply Box.drew|apply Box.alloc|assumption))
 clear hW;have hva:=H.out.hg.va (by rw[HO.out];rfl) (by rw[HO.out];decide);have hvd:=H.out.hg.dst (by rw[HO.out];rfl) (by rw[HO.out];rfl);have t0:=bt.cell 0 rfl;have t1:=bt.cell 1 rfl;have t2:=bt.cell 2 rfl;have t3:=bt.cell 3 rfl;have t4:=bt.cell 4 rfl;have t5:=bt.cell 5 rfl;have t6:=bt.cell 6 rfl;have t7:=bt.cell 7 rfl;have tl:=bt.lt;have x0:=bx.cell 0 rfl;have x1:=bx.cell 1 rfl;have x2:=bx.cell 2 rfl;have x3:=bx.cell 3 rfl;have x4:=bx.cell 4 rfl;have x5:=bx.cell 5 rfl;have x6:=bx.cell 6 rfl;have x7:=bx.cell 7 rfl;have x8:=bx.cell 8 rfl;have x9:=bx.cell 9 rfl;have xl:=bx.lt
 go_wp2_with fail
 refine(yG cs f AH AV AC cH cV cC x.a _ hva (H.out.hv.mono hb1)).mono ?_;rintro e w2 ⟨rfl,hqw2⟩;have hb2:=za hb1 hqw2
 cases ha:zu (tyOf f.vars x.a) with
 |false=>
  go_wp2_with fail
  refine(zP false _).mono ?_;rintro e wz ⟨rfl,rfl⟩
  go_wp2_with fail
  go_ret
  exact⟨by rw[HT.out,ha];rfl,hb2⟩
 |true=>
  have bt2:=bt.mono hqw2;have bx2:=bx.mono hqw2;clear t0 t1 t2 t3 t4 t5 t6 t7 tl x0 x1 x2 x3 x4 x5 x6 x7 x8 x9 xl;have t0:=bt2.cell 0 rfl;have t1:=bt2.cell 1 rfl;have t2:=bt2.cell 2 rfl;have t3:=bt2.cell 3 rfl;have t4:=bt2.cell 4 rfl;have t5:=bt2.cell 5 rfl;have t6:=bt2.cell 6 rfl;have t7:=bt2.cell 7 rfl;have tl:=bt2.lt;have x0:=bx2.cell 0 rfl;have x1:=bx2.cell 1 rfl;have x2:=bx2.cell 2 rfl;have x3:=bx2.cell 3 rfl;have x4:=bx2.cell 4 rfl;have x5:=bx2.cell 5 rfl;have x6:=bx2.cell 6 rfl;have x7:=bx2.cell 7 rfl;have x8:=bx2.cell 8 rfl;have x9:=bx2.cell 9 rfl;have xl:=bx2.lt
  go_wp2_with fail
  refine(yG cs f AH AV AC cH cV cC x.dst _ hvd (H.out.hv.mono hb2)).mono ?_;rintro e w3 ⟨rfl,hqw3⟩;have hb3:=za hb2 hqw3
  cases hd:zu (tyOf f.vars x.dst) with
  |false=>
   go_wp2_with fail
   refine(zP false _).mono ?_;rintro e wz ⟨rfl,rfl⟩
   go_wp2_with fail
   go_ret
   exact⟨by rw[HT.out,ha,hd];rfl,hb3⟩
  |true=>
   go_wp2_with fail
   refine(zP true _).mono ?_;rintro e wz ⟨rfl,rfl⟩
   go_wp2_with fail
   go_ret
   exact⟨by rw[HT.out,ha,hd];rfl,hb3⟩
theorem afz(cs:List Cls)(f:Fun)(x:Ins)(AH AV AC AI:Option Addr)(cH cV cC cI:Nat)(w:World)(H:Hid (TyH w cs f x AH AV AI cH))(hop:x.op=3) :
  Calls Tryz.prog 157 #[.agg #[.slice AH cs.length cH,.string f.cls,.string f.name,.bool f.static,.int .i64 f.nparams,.slice AV f.vars.length cV,.string f.result,.slice AC f.code.length cC],.agg #[.int .i64 x.op,.int .i64 x.dst,.int .i64 x.a,.int .i64 x.b,.int .i64 x.n,.string x.cls,.string x.name,.slice AI x.args.length cI,.int .i64 x.jmp,.int .i64 x.hnd]] w fun e w'=>e = .returned (.int .i64 (insT cs f.vars f.result x))∧Below w.heap.size w w':=by
 obtain⟨r,HR⟩:∃r,Hid (r=insT cs f.vars f.result x):=⟨_,v9h rfl⟩
 rw[←HR.out];have HT:Hid (r=zM (zB cs (tyOf f.vars x.a) (tyOf f.vars x.dst))):=by show r=_;rw[HR.out];simp[insT,hop]<;>rfl
 clear HR;have e1:(x.op==1)=false:=by rw[hop];rfl
 have e5:(x.op==5)=false:=by rw[hop];rfl
 have e2:(x.op==2)=false:=by rw[hop];rfl
 have e3:(x.op==3)=true:=by rw[hop];rfl
 have e16:(x.op==16)=false:=by rw[hop];rfl
 have e11:(x.op==11)=false:=by rw[hop];rfl
 have e14:(x.op==14)=false:=by rw[hop];rfl
 have e4:(x.op==4)=false:=by rw[hop];rfl
 have e6:(x.op==6)=false:=by rw[hop];rfl
 have e15:(x.op==15)=false:=by rw[hop];rfl
 have e7:(x.op==7)=false:=by rw[hop];rfl
 have e8:(x.op==8)=false:=by rw[hop];rfl
 have e9:(x.op==9)=false:=by rw[hop];rfl
 have e10:(x.op==10)=false:=by rw[hop];rfl
 have e13:(x.op==13)=false:=by rw[hop];rfl
 have HO:=v9h hop;clear hop
 go_enter Tryz.func157,Tryz.ntmps157
 go_upto_region 1 with fail
 generalize hW:World.alloc _ _=W1 at *
 have hb1:Below w.heap.size w W1:=by rw[←hW];exact(by repeat(first|assumption|exact v9r|apply zc|apply zd|apply zg|apply ze|apply zi))
 have bt:Box W1 w.heap.size [.slice AH cs.length cH,.string f.cls,.string f.name,.bool f.static,.int .i64 f.nparams,.slice AV f.vars.length cV,.string f.result,.slice AC f.code.length cC] 257:=by rw[←hW];exact(by repeat(first|(refine Box.at ?_;(simp;done))|apply Box.drew|apply Box.alloc|assumption))
 have bx:Box W1 (w.heap.size+1) [.int .i64 x.op,.int .i64 x.dst,.int .i64 x.a,.int .i64 x.b,.int .i64 x.n,.string x.cls,.string x.name,.slice AI x.args.length cI,.int .i64 x.jmp,.int .i64 x.hnd] 59:=by rw[←hW];exact(by repeat(first|(refine Box.at ?_;(simp;done))|apply Box.drew|apply Box.alloc|assumption))
 clear hW;have hva:=H.out.hg.va (by rw[HO.out];rfl) (by rw[HO.out];decide);have hvd:=H.out.hg.dst (by rw[HO.out];rfl) (by rw[HO.out];rfl);have HC1:Hid (∀y:zk W1,Calls Tryz.prog 232 #[.agg #[.slice AH cs.length cH,.string f.cls,.string f.name,.bool f.static,.int .i64 f.nparams,.slice AV f.vars.length cV,.string f.result,.slice AC f.code.length cC],.int .i64 x.a] y.W fun e w'=>e = .returned (.string (tyOf f.vars x.a))∧Below y.W.heap.size y.W w'):=fun y=>yU cs f AH AV AC cH cV cC _ y.W hva (H.out.hv.mono (za hb1 y.h))
 have HC2:Hid (∀y:zk W1,Calls Tryz.prog 232 #[.agg #[.slice AH cs.length cH,.string f.cls,.string f.name,.bool f.static,.int .i64 f.nparams,.slice AV f.vars.length cV,.string f.result,.slice AC f.code.length cC],.int .i64 x.dst] y.W fun e w'=>e = .returned (.string (tyOf f.vars x.dst))∧Below y.W.heap.size y.W w'):=fun y=>yU cs f AH AV AC cH cV cC _ y.W hvd (H.out.hv.mono (za hb1 y.h))
 have HC3:Hid (∀y:zk W1,Calls Tryz.prog 231 #[.agg #[.slice AH cs.length cH,.string f.cls,.string f.name,.bool f.static,.int .i64 f.nparams,.slice AV f.vars.length cV,.string f.result,.slice AC f.code.length cC],.string (tyOf f.vars x.a),.string (tyOf f.vars x.dst)] y.W fun e w'=>e = .returned (.bool (zB cs (tyOf f.vars x.a) (tyOf f.vars x.dst)))∧Below y.W.heap.size y.W w'):=fun y=>qo cs f AH AV AC cH cV cC _ _ y.W H.out.hl H.out.hcc (H.out.hs.mono (za hb1 y.h)) H.out.hok.names (xu H.out.hvo _)
 generalize zB cs (tyOf f.vars x.a) (tyOf f.vars x.dst)=fb at *
 generalize tyOf f.vars x.a=ta at *
 generalize tyOf f.vars x.dst=td at *
 have t0:=bt.cell 0 rfl;have t1:=bt.cell 1 rfl;have t2:=bt.cell 2 rfl;have t3:=bt.cell 3 rfl;have t4:=bt.cell 4 rfl;have t5:=bt.cell 5 rfl;have t6:=bt.cell 6 rfl;have t7:=bt.cell 7 rfl;have tl:=bt.lt;have x0:=bx.cell 0 rfl;have x1:=bx.cell 1 rfl;have x2:=bx.cell 2 rfl;have x3:=bx.cell 3 rfl;have x4:=bx.cell 4 rfl;have x5:=bx.cell 5 rfl;have x6:=bx.cell 6 rfl;have x7:=bx.cell 7 rfl;have x8:=bx.cell 8 rfl;have x9:=bx.cell 9 rfl;have xl:=bx.lt
 go_upto_region 8 with fail
 refine zm (by kernel_rfl) (by kernel_rfl) ?_
 repeat(go_big_quiet_step (first|(go_at_call 232;with_reducible exact Calls.later (HC1.out _))|(go_at_call 232;with_reducible exact Calls.later (HC2.out _))|(go_at_call 231;with_reducible exact Calls.later (HC3.out _))|(go_at_call 229;with_reducible exact Calls.later_same (zP fb _))))
 refine wpQuiet_nil ?_;rintro _ ⟨y,rfl⟩
 go_wp2_with fail
 go_ret
 exact⟨by rw[HT.out];rfl,za hb1 y.h⟩
theorem afA(cs:List Cls)(f:Fun)(x:Ins)(AH AV AC AI:Option Addr)(cH cV cC cI:Nat)(w:World)(H:Hid (TyH w cs f x AH AV AI cH))(hop:x.op=4) :
  Calls Tryz.prog 157 #[.agg #[.slice AH cs.length cH,.string f.cls,.string f.name,.bool f.static,.int .i64 f.nparams,.slice AV f.vars.length cV,.string f.result,.slice AC f.code.length cC],.agg #[.int .i64 x.op,.int .i64 x.dst,.int .i64 x.a,.int .i64 x.b,.int .i64 x.n,.string x.cls,.string x.name,.slice AI x.args.length cI,.int .i64 x.jmp,.int .i64 x.hnd]] w fun e w'=>e = .returned (.int .i64 (insT cs f.vars f.result x))∧Below w.heap.size w w':=by
 obtain⟨r,HR⟩:∃r,Hid (r=insT cs f.vars f.result x):=⟨_,v9h rfl⟩
 rw[←HR.out];have HT:Hid (r=zM (zu (tyOf f.vars x.dst)&&(zu (tyOf f.vars x.a)&&zu (tyOf f.vars x.b)||(x.n==5) && !zu (tyOf f.vars x.a) && !zu (tyOf f.vars x.b)))):=by show r=_;rw[HR.out,←yC x.n 5];simp[insT,hop]<;>rfl
 clear HR;have e1:(x.op==1)=false:=by rw[hop];rfl
 have e5:(x.op==5)=false:=by rw[hop];rfl
 have e2:(x.op==2)=false:=by rw[hop];rfl
 have e3:(x.op==3)=false:=by rw[hop];rfl
 have e16:(x.op==16)=false:=by rw[hop];rfl
 have e11:(x.op==11)=false:=by rw[hop];rfl
 have e14:(x.op==14)=false:=by rw[hop];rfl
 have e4:(x.op==4)=true:=by rw[hop];rfl
 have e6:(x.op==6)=false:=by rw[hop];rfl
 have e15:(x.op==15)=false:=by rw[hop];rfl
 have e7:(x.op==7)=false:=by rw[hop];rfl
 have e8:(x.op==8)=false:=by rw[hop];rfl
 have e9:(x.op==9)=false:=by rw[hop];rfl
 have e10:(x.op==10)=false:=by rw[hop];rfl
 have e13:(x.op==13)=false:=by rw[hop];rfl
 have HO:=v9h hop;clear hop
 go_enter Tryz.func157,Tryz.ntmps157
 go_upto_region 1 with fail
 generalize hW:World.alloc _ _=W1 at *
 have hb1:Below w.heap.size w W1:=by rw[←hW];exact(by repeat(first|assumption|exact v9r|apply zc|apply zd|apply zg|apply ze|apply zi))
 have bt:Box W1 w.heap.size [.slice AH cs.length cH,.string f.cls,.string f.name,.bool f.static,.int .i64 f.nparams,.slice AV f.vars.length cV,.string f.result,.slice AC f.code.length cC] 257:=by rw[←hW];exact(by repeat(first|(refine Box.at ?_;(simp;done))|apply Box.drew|apply Box.alloc|assumption))
 have bx:Box W1 (w.heap.size+1) [.int .i64 x.op,.int .i64 x.dst,.int .i64 x.a,.int .i64 x.b,.int .i64 x.n,.string x.cls,.string x.name,.slice AI x.args.length cI,.int .i64 x.jmp,.int .i64 x.hnd] 59:=by rw[←hW];exact(by repeat(first|(refine Box.at ?_;(simp;done))|apply Box.drew|apply Box.alloc|assumption))
 clear hW;have hva:=H.out.hg.va (by rw[HO.out];rfl) (by rw[HO.out];decide);have hvb:=H.out.hg.b (by rw[HO.out];rfl);have hvd:=H.out.hg.dst (by rw[HO.out];rfl) (by rw[HO.out];rfl);have HC1:Hid (∀y:zk W1,Calls Tryz.prog 230 #[.agg #[.slice AH cs.length cH,.string f.cls,.string f.name,.bool f.static,.int .i64 f.nparams,.slice AV f.vars.length cV,.string f.result,.slice AC f.code.length cC],.int .i64 x.a] y.W fun e w'=>e = .returned (.bool (zu (tyOf f.vars x.a)))∧Below y.W.heap.size y.W w'):=fun y=>yG cs f AH AV AC cH cV cC _ y.W hva (H.out.hv.mono (za hb1 y.h))
 have HC2:Hid (∀y:zk W1,Calls Tryz.prog 230 #[.agg #[.slice AH cs.length cH,.string f.cls,.string f.name,.bool f.static,.int .i64 f.nparams,.slice AV f.vars.length cV,.string f.result,.slice AC f.code.length cC],.int .i64 x.b] y.W fun e w'=>e = .returned (.bool (zu (tyOf f.vars x.b)))∧Below y.W.heap.size y.W w'):=fun y=>yG cs f AH AV AC cH cV cC _ y.W hvb (H.out.hv.mono (za hb1 y.h))
 generalize zu (tyOf f.vars x.a)=ia at *
 generalize zu (tyOf f.vars x.b)=ib at *
 generalize hn5:(x.n==5)=n5 at *
 have t0:=bt.cell 0 rfl;have t1:=bt.cell 1 rfl;have t2:=bt.cell 2 rfl;have t3:=bt.cell 3 rfl;have t4:=bt.cell 4 rfl;have t5:=bt.cell 5 rfl;have t6:=bt.cell 6 rfl;have t7:=bt.cell 7 rfl;have tl:=bt.lt;have x0:=bx.cell 0 rfl;have x1:=bx.cell 1 rfl;have x2:=bx.cell 2 rfl;have x3:=bx.cell 3 rfl;have x4:=bx.cell 4 rfl;have x5:=bx.cell 5 rfl;have x6:=bx.cell 6 rfl;have x7:=bx.cell 7 rfl;have x8:=bx.cell 8 rfl;have x9:=bx.cell 9 rfl;have xl:=bx.lt
 go_upto_region 16 with fail
 refine zm (by kernel_rfl) (by kernel_rfl) ?_
 repeat(go_big_quiet_step (first|(go_at_call 230;with_reducible exact Calls.later (HC1.out _))|(go_at_call 230;with_reducible exact Calls.later (HC2.out _))))
 refine wpQuiet_nil ?_;rintro _ ⟨y,rfl⟩;have hb2:=za hb1 y.h;have bt2:=bt.mono y.h;have bx2:=bx.mono y.h;obtain⟨W2,hW2⟩:∃W2,W2=y.W:=⟨_,rfl⟩
 rw[←hW2] at hb2 bt2 bx2 ⊢;clear hW2 HC1 HC2;clear t0 t1 t2 t3 t4 t5 t6 t7 tl x0 x1 x2 x3 x4 x5 x6 x7 x8 x9 xl;have t0:=bt2.cell 0 rfl;have t1:=bt2.cell 1 rfl;have t2:=bt2.cell 2 rfl;have t3:=bt2.cell 3 rfl;have t4:=bt2.cell 4 rfl;have t5:=bt2.cell 5 rfl;have t6:=bt2.cell 6 rfl;have t7:=bt2.cell 7 rfl;have tl:=bt2.lt;have x0:=bx2.cell 0 rfl;have x1:=bx2.cell 1 rfl;have x2:=bx2.cell 2 rfl;have x3:=bx2.cell 3 rfl;have x4:=bx2.cell 4 rfl;have x5:=bx2.cell 5 rfl;have x6:=bx2.cell 6 rfl;have x7:=bx2.cell 7 rfl;have x8:=bx2.cell 8 rfl;have x9:=bx2.cell 9 rfl;have xl:=bx2.lt
 go_wp2_with fail
 refine(yG cs f AH AV AC cH cV cC x.dst _ hvd (H.out.hv.mono hb2)).mono ?_;rintro e w3 ⟨rfl,hqw3⟩;have hb3:=za hb2 hqw3;have bx3:=bx2.mono hqw3;have x4':=bx3.cell 4 rfl;have xl':=bx3.lt;clear t0 t1 t2 t3 t4 t5 t6 t7 tl x0 x1 x2 x3 x4 x5 x6 x7 x8 x9 xl
 cases hd:zu (tyOf f.vars x.dst) with
 |false=>
  go_wp2_with fail
  refine(zP false _).mono ?_;rintro e wz ⟨rfl,rfl⟩
  go_wp2_with fail
  go_ret
  exact⟨by rw[HT.out,hd];rfl,hb3⟩
 |true=>
  cases ia with
  |true=>
   cases ib with
   |true=>
    go_wp2_with fail
    refine(zP true _).mono ?_;rintro e wz ⟨rfl,rfl⟩
    go_wp2_with fail
    go_ret
    exact⟨by rw[HT.out,hd];rfl,hb3⟩
   |false=>
    cases n5 with
    |true=>
     go_wp2_with fail
     refine(zP false _).mono ?_;rintro e wz ⟨rfl,rfl⟩
     go_wp2_with fail
     go_ret
     exact⟨by rw[HT.out,hd];rfl,hb3⟩
    |false=>
     go_wp2_with fail
     refine(zP false _).mono ?_;rintro e wz ⟨rfl,rfl⟩
     go_wp2_with fail
     go_ret
     exact⟨by rw[HT.out,hd];rfl,hb3⟩
  |false=>
   cases n5 with
   |false=>
    go_wp2_with fail
    refine(zP false _).mono ?_;rintro e wz ⟨rfl,rfl⟩
    go_wp2_with fail
    go_ret
    exact⟨by rw[HT.out,hd];rfl,hb3⟩
   |true=>
    cases ib with
    |true=>
     go_wp2_with fail
     refine(zP false _).mono ?_;rintro e wz ⟨rfl,rfl⟩
     go_wp2_with fail
     go_ret
     exact⟨by rw[HT.out,hd];rfl,hb3⟩
    |false=>
     go_wp2_with fail
     refine(zP true _).mono ?_;rintro e wz ⟨rfl,rfl⟩
     go_wp2_with fail
     go_ret
     exact⟨by rw[HT.out,hd];rfl,hb3⟩
theorem afB(cs:List Cls)(f:Fun)(x:Ins)(AH AV AC AI:Option Addr)(cH cV cC cI:Nat)(w:World)(H:Hid (TyH w cs f x AH AV AI cH))(hop:x.op=6) :
  Calls Tryz.prog 157 #[.agg #[.slice AH cs.length cH,.string f.cls,.string f.name,.bool f.static,.int .i64 f.nparams,.slice AV f.vars.length cV,.string f.result,.slice AC f.code.length cC],.agg #[.int .i64 x.op,.int .i64 x.dst,.int .i64 x.a,.int .i64 x.b,.int .i64 x.n,.string x.cls,.string x.name,.slice AI x.args.length cI,.int .i64 x.jmp,.int .i64 x.hnd]] w fun e w'=>e = .returned (.int .i64 (insT cs f.vars f.result x))∧Below w.heap.size w w':=by
 obtain⟨r,HR⟩:∃r,Hid (r=insT cs f.vars f.result x):=⟨_,v9h rfl⟩
 rw[←HR.out];have HT:Hid (r=if fnd cs x.cls<0 then 6 else zM (zB cs x.cls (tyOf f.vars x.dst))):=by show r=_;rw[HR.out];simp[insT,hop]<;>rfl
 clear HR;have e1:(x.op==1)=false:=by rw[hop];rfl
 have e5:(x.op==5)=false:=by rw[hop];rfl
 have e2:(x.op==2)=false:=by rw[hop];rfl
 have e3:(x.op==3)=false:=by rw[hop];rfl
 have e16:(x.op==16)=false:=by rw[hop];rfl
 have e11:(x.op==11)=false:=by rw[hop];rfl
 have e14:(x.op==14)=false:=by rw[hop];rfl
 have e4:(x.op==4)=false:=by rw[hop];rfl
 have e6:(x.op==6)=true:=by rw[hop];rfl
 have e15:(x.op==15)=false:=by rw[hop];rfl
 have e7:(x.op==7)=false:=by rw[hop];rfl
 have e8:(x.op==8)=false:=by rw[hop];rfl
 have e9:(x.op==9)=false:=by rw[hop];rfl
 have e10:(x.op==10)=false:=by rw[hop];rfl
 have e13:(x.op==13)=false:=by rw[hop];rfl
 have HO:=v9h hop;clear hop
 go_enter Tryz.func157,Tryz.ntmps157
 go_upto_region 1 with fail
 generalize hW:World.alloc _ _=W1 at *
 have hb1:Below w.heap.size w W1:=by rw[←hW];exact(by repeat(first|assumption|exact v9r|apply zc|apply zd|apply zg|apply ze|apply zi))
 have bt:Box W1 w.heap.size [.slice AH cs.length cH,.string f.cls,.string f.name,.bool f.static,.int .i64 f.nparams,.slice AV f.vars.length cV,.string f.result,.slice AC f.code.length cC] 257:=by rw[←hW];exact(by repeat(first|(refine Box.at ?_;(simp;done))|apply Box.drew|apply Box.alloc|assumption))
 have bx:Box W1 (w.heap.size+1) [.int .i64 x.op,.int .i64 x.dst,.int .i64 x.a,.int .i64 x.b,.int .i64 x.n,.string x.cls,.string x.name,.slice AI x.args.length cI,.int .i64 x.jmp,.int .i64 x.hnd] 59:=by rw[←hW];exact(by repeat(first|(refine Box.at ?_;(simp;done))|apply Box.drew|apply Box.alloc|assumption))
 clear hW;have hvd:=H.out.hg.dst (by rw[HO.out];rfl) (by rw[HO.out];rfl);have t0:=bt.cell 0 rfl;have t1:=bt.cell 1 rfl;have t2:=bt.cell 2 rfl;have t3:=bt.cell 3 rfl;have t4:=bt.cell 4 rfl;have t5:=bt.cell 5 rfl;have t6:=bt.cell 6 rfl;have t7:=bt.cell 7 rfl;have tl:=bt.lt;have x0:=bx.cell 0 rfl;have x1:=bx.cell 1 rfl;have x2:=bx.cell 2 rfl;have x3:=bx.cell 3 rfl;have x4:=bx.cell 4 rfl;have x5:=bx.cell 5 rfl;have x6:=bx.cell 6 rfl;have x7:=bx.cell 7 rfl;have x8:=bx.cell 8 rfl;have x9:=bx.cell 9 rfl;have xl:=bx.lt;have hfb:=yb cs x.cls
 go_wp2_with fail
 refine(xb AH cH cs x.cls _ (by have:=H.out.hl;omega) (H.out.hs.mono hb1)).mono ?_;rintro e w2 ⟨rfl,hq2⟩;have hb2:=za hb1 hq2;have bt2:=bt.mono hq2;have bx2:=bx.mono hq2;clear t0 t1 t2 t3 t4 t5 t6 t7 tl x0 x1 x2 x3 x4 x5 x6 x7 x8 x9 xl
 by_cases hneg:fnd cs x.cls<0
 ·have HB:Hid (r=6):=by show r=6;rw[HT.out,if_pos hneg]
  go_wp2_with fail
  go_ret
  exact⟨by rw[HB.out];rfl,hb2⟩
 have HB:Hid (r=zM (zB cs x.cls (tyOf f.vars x.dst))):=by show r=_;rw[HT.out,if_neg hneg]
 clear HT;have HC1:Hid (∀y:zk w2,Calls Tryz.prog 232 #[.agg #[.slice AH cs.length cH,.string f.cls,.string f.name,.bool f.static,.int .i64 f.nparams,.slice AV f.vars.length cV,.string f.result,.slice AC f.code.length cC],.int .i64 x.dst] y.W fun e w'=>e = .returned (.string (tyOf f.vars x.dst))∧Below y.W.heap.size y.W w'):=fun y=>yU cs f AH AV AC cH cV cC _ y.W hvd (H.out.hv.mono (za hb2 y.h))
 have HC2:Hid (∀y:zk w2,Calls Tryz.prog 231 #[.agg #[.slice AH cs.length cH,.string f.cls,.string f.name,.bool f.static,.int .i64 f.nparams,.slice AV f.vars.length cV,.string f.result,.slice AC f.code.length cC],.string x.cls,.string (tyOf f.vars x.dst)] y.W fun e w'=>e = .returned (.bool (zB cs x.cls (tyOf f.vars x.dst)))∧Below y.W.heap.size y.W w'):=fun y=>qo cs f AH AV AC cH cV cC _ _ y.W H.out.hl H.out.hcc (H.out.hs.mono (za hb2 y.h)) H.out.hok.names H.out.hxc
 generalize zB cs x.cls (tyOf f.vars x.dst)=fb at *
 generalize tyOf f.vars x.dst=td at *
 have t0:=bt2.cell 0 rfl;have t1:=bt2.cell 1 rfl;have t2:=bt2.cell 2 rfl;have t3:=bt2.cell 3 rfl;have t4:=bt2.cell 4 rfl;have t5:=bt2.cell 5 rfl;have t6:=bt2.cell 6 rfl;have t7:=bt2.cell 7 rfl;have tl:=bt2.lt;have x0:=bx2.cell 0 rfl;have x1:=bx2.cell 1 rfl;have x2:=bx2.cell 2 rfl;have x3:=bx2.cell 3 rfl;have x4:=bx2.cell 4 rfl;have x5:=bx2.cell 5 rfl;have x6:=bx2.cell 6 rfl;have x7:=bx2.cell 7 rfl;have x8:=bx2.cell 8 rfl;have x9:=bx2.cell 9 rfl;have xl:=bx2.lt
 go_upto_region 22 with fail
 refine zm (by kernel_rfl) (by kernel_rfl) ?_
 repeat(go_big_quiet_step (first|(go_at_call 232;with_reducible exact Calls.later (HC1.out _))|(go_at_call 231;with_reducible exact Calls.later (HC2.out _))|(go_at_call 229;with_reducible exact Calls.later_same (zP fb _))))
 refine wpQuiet_nil ?_;rintro _ ⟨y,rfl⟩
 go_wp2_with fail
 go_ret
 exact⟨by rw[HB.out];rfl,za hb2 y.h⟩
theorem aeD(cs:List Cls)(f:Fun)(x:Ins)(AH AV AC AI:Option Addr)(cH cV cC cI:Nat)(w:World)(H:Hid (TyH w cs f x AH AV AI cH))(hop:x.op=15) :
  Calls Tryz.prog 157 #[.agg #[.slice AH cs.length cH,.string f.cls,.string f.name,.bool f.static,.int .i64 f.nparams,.slice AV f.vars.length cV,.string f.result,.slice AC f.code.length cC],.agg #[.int .i64 x.op,.int .i64 x.dst,.int .i64 x.a,.int .i64 x.b,.int .i64 x.n,.string x.cls,.string x.name,.slice AI x.args.length cI,.int .i64 x.jmp,.int .i64 x.hnd]] w fun e w'=>e = .returned (.int .i64 (insT cs f.vars f.result x))∧Below w.heap.size w w':=by
 obtain⟨r,HR⟩:∃r,Hid (r=insT cs f.vars f.result x):=⟨_,v9h rfl⟩
 rw[←HR.out];have HT:Hid (r=if fnd cs x.cls<0 then 6 else zM (zB cs x.cls (tyOf f.vars x.dst))):=by show r=_;rw[HR.out];simp[insT,hop]<;>rfl
 clear HR;have e1:(x.op==1)=false:=by rw[hop];rfl
 have e5:(x.op==5)=false:=by rw[hop];rfl
 have e2:(x.op==2)=false:=by rw[hop];rfl
 have e3:(x.op==3)=false:=by rw[hop];rfl
 have e16:(x.op==16)=false:=by rw[hop];rfl
 have e11:(x.op==11)=false:=by rw[hop];rfl
 have e14:(x.op==14)=false:=by rw[hop];rfl
 have e4:(x.op==4)=false:=by rw[hop];rfl
 have e6:(x.op==6)=false:=by rw[hop];rfl
 have e15:(x.op==15)=true:=by rw[hop];rfl
 have e7:(x.op==7)=false:=by rw[hop];rfl
 have e8:(x.op==8)=false:=by rw[hop];rfl
 have e9:(x.op==9)=false:=by rw[hop];rfl
 have e10:(x.op==10)=false:=by rw[hop];rfl
 have e13:(x.op==13)=false:=by rw[hop];rfl
 have HO:=v9h hop;clear hop
 go_enter Tryz.func157,Tryz.ntmps157
 go_upto_region 1 with fail
 generalize hW:World.alloc _ _=W1 at *
 have hb1:Below w.heap.size w W1:=by rw[←hW];exact(by repeat(first|assumption|exact v9r|apply zc|apply zd|apply zg|apply ze|apply zi))
 have bt:Box W1 w.heap.size [.slice AH cs.length cH,.string f.cls,.string f.name,.bool f.static,.int .i64 f.nparams,.slice AV f.vars.length cV,.string f.result,.slice AC f.code.length cC] 257:=by rw[←hW];exact(by repeat(first|(refine Box.at ?_;(simp;done))|apply Box.drew|apply Box.alloc|assumption))
 have bx:Box W1 (w.heap.size+1) [.int .i64 x.op,.int .i64 x.dst,.int .i64 x.a,.int .i64 x.b,.int .i64 x.n,.string x.cls,.string x.name,.slice AI x.args.length cI,.int .i64 x.jmp,.int .i64 x.hnd] 59:=by rw[←hW];exact(by repeat(first|(refine Box.at ?_;(simp;done))|apply Box.drew|apply Box.alloc|assumption))
 clear hW;have hvd:=H.out.hg.dst (by rw[HO.out];rfl) (by rw[HO.out];rfl);have t0:=bt.cell 0 rfl;have t1:=bt.cell 1 rfl;have t2:=bt.cell 2 rfl;have t3:=bt.cell 3 rfl;have t4:=bt.cell 4 rfl;have t5:=bt.cell 5 rfl;have t6:=bt.cell 6 rfl;have t7:=bt.cell 7 rfl;have tl:=bt.lt;have x0:=bx.cell 0 rfl;have x1:=bx.cell 1 rfl;have x2:=bx.cell 2 rfl;have x3:=bx.cell 3 rfl;have x4:=bx.cell 4 rfl;have x5:=bx.cell 5 rfl;have x6:=bx.cell 6 rfl;have x7:=bx.cell 7 rfl;have x8:=bx.cell 8 rfl;have x9:=bx.cell 9 rfl;have xl:=bx.lt;have hfb:=yb cs x.cls
 go_wp2_with fail
 refine(xb AH cH cs x.cls _ (by have:=H.out.hl;omega) (H.out.hs.mono hb1)).mono ?_;rintro e w2 ⟨rfl,hq2⟩;have hb2:=za hb1 hq2;have bt2:=bt.mono hq2;have bx2:=bx.mono hq2;clear t0 t1 t2 t3 t4 t5 t6 t7 tl x0 x1 x2 x3 x4 x5 x6 x7 x8 x9 xl
 by_cases hneg:fnd cs x.cls<0
 ·have HB:Hid (r=6):=by show r=6;rw[HT.out,if_pos hneg]
  go_wp2_with fail
  go_ret
  exact⟨by rw[HB.out];rfl,hb2⟩
 have HB:Hid (r=zM (zB cs x.cls (tyOf f.vars x.dst))):=by show r=_;rw[HT.out,if_neg hneg]
 clear HT;have HC1:Hid (∀y:zk w2,Calls Tryz.prog 232 #[.agg #[.slice AH cs.length cH,.string f.cls,.string f.name,.bool f.static,.int .i64 f.nparams,.slice AV f.vars.length cV,.string f.result,.slice AC f.code.length cC],.int .i64 x.dst] y.W fun e w'=>e = .returned (.string (tyOf f.vars x.dst))∧Below y.W.heap.size y.W w'):=fun y=>yU cs f AH AV AC cH cV cC _ y.W hvd (H.out.hv.mono (za hb2 y.h))
 have HC2:Hid (∀y:zk w2,Calls Tryz.prog 231 #[.agg #[.slice AH cs.length cH,.string f.cls,.string f.name,.bool f.static,.int .i64 f.nparams,.slice AV f.vars.length cV,.string f.result,.slice AC f.code.length cC],.string x.cls,.string (tyOf f.vars x.dst)] y.W fun e w'=>e = .returned (.bool (zB cs x.cls (tyOf f.vars x.dst)))∧Below y.W.heap.size y.W w'):=fun y=>qo cs f AH AV AC cH cV cC _ _ y.W H.out.hl H.out.hcc (H.out.hs.mono (za hb2 y.h)) H.out.hok.names H.out.hxc
 generalize zB cs x.cls (tyOf f.vars x.dst)=fb at *
 generalize tyOf f.vars x.dst=td at *
 have t0:=bt2.cell 0 rfl;have t1:=bt2.cell 1 rfl;have t2:=bt2.cell 2 rfl;have t3:=bt2.cell 3 rfl;have t4:=bt2.cell 4 rfl;have t5:=bt2.cell 5 rfl;have t6:=bt2.cell 6 rfl;have t7:=bt2.cell 7 rfl;have tl:=bt2.lt;have x0:=bx2.cell 0 rfl;have x1:=bx2.cell 1 rfl;have x2:=bx2.cell 2 rfl;have x3:=bx2.cell 3 rfl;have x4:=bx2.cell 4 rfl;have x5:=bx2.cell 5 rfl;have x6:=bx2.cell 6 rfl;have x7:=bx2.cell 7 rfl;have x8:=bx2.cell 8 rfl;have x9:=bx2.cell 9 rfl;have xl:=bx2.lt
 go_upto_region 22 with fail
 refine zm (by kernel_rfl) (by kernel_rfl) ?_
 repeat(go_big_quiet_step (first|(go_at_call 232;with_reducible exact Calls.later (HC1.out _))|(go_at_call 231;with_reducible exact Calls.later (HC2.out _))|(go_at_call 229;with_reducible exact Calls.later_same (zP fb _))))
 refine wpQuiet_nil ?_;rintro _ ⟨y,rfl⟩
 go_wp2_with fail
 go_ret
 exact⟨by rw[HB.out];rfl,za hb2 y.h⟩
theorem afC(cs:List Cls)(f:Fun)(x:Ins)(AH AV AC AI:Option Addr)(cH cV cC cI:Nat)(w:World)(H:Hid (TyH w cs f x AH AV AI cH))(hop:x.op=7) :
  Calls Tryz.prog 157 #[.agg #[.slice AH cs.length cH,.string f.cls,.string f.name,.bool f.static,.int .i64 f.nparams,.slice AV f.vars.length cV,.string f.result,.slice AC f.code.length cC],.agg #[.int .i64 x.op,.int .i64 x.dst,.int .i64 x.a,.int .i64 x.b,.int .i64 x.n,.string x.cls,.string x.name,.slice AI x.args.length cI,.int .i64 x.jmp,.int .i64 x.hnd]] w fun e w'=>e = .returned (.int .i64 (insT cs f.vars f.result x))∧Below w.heap.size w w':=by
 obtain⟨r,HR⟩:∃r,Hid (r=insT cs f.vars f.result x):=⟨_,v9h rfl⟩
 rw[←HR.out];have HT:Hid (r=qg cs f.vars x):=by show r=_;rw[HR.out];simp[insT,hop]<;>rfl
 clear HR;have e1:(x.op==1)=false:=by rw[hop];rfl
 have e5:(x.op==5)=false:=by rw[hop];rfl
 have e2:(x.op==2)=false:=by rw[hop];rfl
 have e3:(x.op==3)=false:=by rw[hop];rfl
 have e16:(x.op==16)=false:=by rw[hop];rfl
 have e11:(x.op==11)=false:=by rw[hop];rfl
 have e14:(x.op==14)=false:=by rw[hop];rfl
 have e4:(x.op==4)=false:=by rw[hop];rfl
 have e6:(x.op==6)=false:=by rw[hop];rfl
 have e15:(x.op==15)=false:=by rw[hop];rfl
 have e7:(x.op==7)=true:=by rw[hop];rfl
 have e8:(x.op==8)=false:=by rw[hop];rfl
 have e9:(x.op==9)=false:=by rw[hop];rfl
 have e10:(x.op==10)=false:=by rw[hop];rfl
 have e13:(x.op==13)=false:=by rw[hop];rfl
 have HO:=v9h hop;clear hop
 go_enter Tryz.func157,Tryz.ntmps157
 go_upto_region 1 with fail
 generalize hW:World.alloc _ _=W1 at *
 have hb1:Below w.heap.size w W1:=by rw[←hW];exact(by repeat(first|assumption|exact v9r|apply zc|apply zd|apply zg|apply ze|apply zi))
 have bt:Box W1 w.heap.size [.slice AH cs.length cH,.string f.cls,.string f.name,.bool f.static,.int .i64 f.nparams,.slice AV f.vars.length cV,.string f.result,.slice AC f.code.length cC] 257:=by rw[←hW];exact(by repeat(first|(refine Box.at ?_;(simp;done))|apply Box.drew|apply Box.alloc|assumption))
 have bx:Box W1 (w.heap.size+1) [.int .i64 x.op,.int .i64 x.dst,.int .i64 x.a,.int .i64 x.b,.int .i64 x.n,.string x.cls,.string x.name,.slice AI x.args.length cI,.int .i64 x.jmp,.int .i64 x.hnd] 59:=by rw[←hW];exact(by repeat(first|(refine Box.at ?_;(simp;done))|apply Box.drew|apply Box.alloc|assumption))
 clear hW;have hva:=H.out.hg.va (by rw[HO.out];rfl) (by rw[HO.out];decide);have hvd:=H.out.hg.dst (by rw[HO.out];rfl) (by rw[HO.out];rfl);have t0:=bt.cell 0 rfl;have t1:=bt.cell 1 rfl;have t2:=bt.cell 2 rfl;have t3:=bt.cell 3 rfl;have t4:=bt.cell 4 rfl;have t5:=bt.cell 5 rfl;have t6:=bt.cell 6 rfl;have t7:=bt.cell 7 rfl;have tl:=bt.lt;have x0:=bx.cell 0 rfl;have x1:=bx.cell 1 rfl;have x2:=bx.cell 2 rfl;have x3:=bx.cell 3 rfl;have x4:=bx.cell 4 rfl;have x5:=bx.cell 5 rfl;have x6:=bx.cell 6 rfl;have x7:=bx.cell 7 rfl;have x8:=bx.cell 8 rfl;have x9:=bx.cell 9 rfl;have xl:=bx.lt
 go_wp2_with fail
 refine(aal cs f x AH AV AC AI cH cV cC cI _ H.out.hl H.out.hcc (H.out.hs.mono hb1) (v9h H.out.hok) (v9h H.out.hlk) (H.out.hv.mono hb1) (v9h H.out.hvo) hva (fun h=>hvd) (fun h=>(by rw[HO.out] at h;exact absurd rfl h))).mono ?_;rintro e w2 ⟨rfl,hq2⟩;have hb2:=za hb1 hq2
 go_wp2_with fail
 go_ret
 exact⟨by rw[HT.out];rfl,hb2⟩
theorem afD(cs:List Cls)(f:Fun)(x:Ins)(AH AV AC AI:Option Addr)(cH cV cC cI:Nat)(w:World)(H:Hid (TyH w cs f x AH AV AI cH))(hop:x.op=8) :
  Calls Tryz.prog 157 #[.agg #[.slice AH cs.length cH,.string f.cls,.string f.name,.bool f.static,.int .i64 f.nparams,.slice AV f.vars.length cV,.string f.result,.slice AC f.code.length cC],.agg #[.int .i64 x.op,.int .i64 x.dst,.int .i64 x.a,.int .i64 x.b,.int .i64 x.n,.string x.cls,.string x.name,.slice AI x.args.length cI,.int .i64 x.jmp,.int .i64 x.hnd]] w fun e w'=>e = .returned (.int .i64 (insT cs f.vars f.result x))∧Below w.heap.size w w':=by
 obtain⟨r,HR⟩:∃r,Hid (r=insT cs f.vars f.result x):=⟨_,v9h rfl⟩
 rw[←HR.out];have HT:Hid (r=qg cs f.vars x):=by show r=_;rw[HR.out];simp[insT,hop]<;>rfl
 clear HR;have e1:(x.op==1)=false:=by rw[hop];rfl
 have e5:(x.op==5)=false:=by rw[hop];rfl
 have e2:(x.op==2)=false:=by rw[hop];rfl
 have e3:(x.op==3)=false:=by rw[hop];rfl
 have e16:(x.op==16)=false:=by rw[hop];rfl
 have e11:(x.op==11)=false:=by rw[hop];rfl
 have e14:(x.op==14)=false:=by rw[hop];rfl
 have e4:(x.op==4)=false:=by rw[hop];rfl
 have e6:(x.op==6)=false:=by rw[hop];rfl
 have e15:(x.op==15)=false:=by rw[hop];rfl
 have e7:(x.op==7)=false:=by rw[hop];rfl
 have e8:(x.op==8)=true:=by rw[hop];rfl
 have e9:(x.op==9)=false:=by rw[hop];rfl
 have e10:(x.op==10)=false:=by rw[hop];rfl
 have e13:(x.op==13)=false:=by rw[hop];rfl
 have HO:=v9h hop;clear hop
 go_enter Tryz.func157,Tryz.ntmps157
 go_upto_region 1 with fail
 generalize hW:World.alloc _ _=W1 at *
 have hb1:Below w.heap.size w W1:=by rw[←hW];exact(by repeat(first|assumption|exact v9r|apply zc|apply zd|apply zg|apply ze|apply zi))
 have bt:Box W1 w.heap.size [.slice AH cs.length cH,.string f.cls,.string f.name,.bool f.static,.int .i64 f.nparams,.slice AV f.vars.length cV,.string f.result,.slice AC f.code.length cC] 257:=by rw[←hW];exact(by repeat(first|(refine Box.at ?_;(simp;done))|apply Box.drew|apply Box.alloc|assumption))
 have bx:Box W1 (w.heap.size+1) [.int .i64 x.op,.int .i64 x.dst,.int .i64 x.a,.int .i64 x.b,.int .i64 x.n,.string x.cls,.string x.name,.slice AI x.args.length cI,.int .i64 x.jmp,.int .i64 x.hnd] 59:=by rw[←hW];exact(by repeat(first|(refine Box.at ?_;(simp;done))|apply Box.drew|apply Box.alloc|assumption))
 clear hW;have hva:=H.out.hg.va (by rw[HO.out];rfl) (by rw[HO.out];decide);have hvb:=H.out.hg.b (by rw[HO.out];rfl);have t0:=bt.cell 0 rfl;have t1:=bt.cell 1 rfl;have t2:=bt.cell 2 rfl;have t3:=bt.cell 3 rfl;have t4:=bt.cell 4 rfl;have t5:=bt.cell 5 rfl;have t6:=bt.cell 6 rfl;have t7:=bt.cell 7 rfl;have tl:=bt.lt;have x0:=bx.cell 0 rfl;have x1:=bx.cell 1 rfl;have x2:=bx.cell 2 rfl;have x3:=bx.cell 3 rfl;have x4:=bx.cell 4 rfl;have x5:=bx.cell 5 rfl;have x6:=bx.cell 6 rfl;have x7:=bx.cell 7 rfl;have x8:=bx.cell 8 rfl;have x9:=bx.cell 9 rfl;have xl:=bx.lt
 go_wp2_with fail
 refine(aal cs f x AH AV AC AI cH cV cC cI _ H.out.hl H.out.hcc (H.out.hs.mono hb1) (v9h H.out.hok) (v9h H.out.hlk) (H.out.hv.mono hb1) (v9h H.out.hvo) hva (fun h=>(by rw[HO.out] at h;exact absurd h (by decide))) (fun h=>hvb)).mono ?_;rintro e w2 ⟨rfl,hq2⟩;have hb2:=za hb1 hq2
 go_wp2_with fail
 go_ret
 exact⟨by rw[HT.out];rfl,hb2⟩
theorem afE(cs:List Cls)(f:Fun)(x:Ins)(AH AV AC AI:Option Addr)(cH cV cC cI:Nat)(w:World)(H:Hid (TyH w cs f x AH AV AI cH))(hop:x.op=9) :
  Calls Tryz.prog 157 #[.agg #[.slice AH cs.length cH,.string f.cls,.string f.name,.bool f.static,.int .i64 f.nparams,.slice AV f.vars.length cV,.string f.result,.slice AC f.code.length cC],.agg #[.int .i64 x.op,.int .i64 x.dst,.int .i64 x.a,.int .i64 x.b,.int .i64 x.n,.string x.cls,.string x.name,.slice AI x.args.length cI,.int .i64 x.jmp,.int .i64 x.hnd]] w fun e w'=>e = .returned (.int .i64 (insT cs f.vars f.result x))∧Below w.heap.size w w':=by
 obtain⟨r,HR⟩:∃r,Hid (r=insT cs f.vars f.result x):=⟨_,v9h rfl⟩
 rw[←HR.out]
 have HT:Hid (r=if !zW cs (tyOf f.vars x.a) || !((tyOf f.vars x.a).toList==x.cls.toList) then 8 else match sgAt cs (zU cs x.cls x.name) with
  |none=>6
  |some g=>if g.static then 6 else yN cs f.vars x g):=by show r=_;rw[HR.out];simp[insT,hop]<;>rfl
 clear HR;have e1:(x.op==1)=false:=by rw[hop];rfl
 have e5:(x.op==5)=false:=by rw[hop];rfl
 have e2:(x.op==2)=false:=by rw[hop];rfl
 have e3:(x.op==3)=false:=by rw[hop];rfl
 have e16:(x.op==16)=false:=by rw[hop];rfl
 have e11:(x.op==11)=false:=by rw[hop];rfl
 have e14:(x.op==14)=false:=by rw[hop];rfl
 have e4:(x.op==4)=false:=by rw[hop];rfl
 have e6:(x.op==6)=false:=by rw[hop];rfl
 have e15:(x.op==15)=false:=by rw[hop];rfl
 have e7:(x.op==7)=false:=by rw[hop];rfl
 have e8:(x.op==8)=false:=by rw[hop];rfl
 have e9:(x.op==9)=true:=by rw[hop];rfl
 have e10:(x.op==10)=false:=by rw[hop];rfl
 have e13:(x.op==13)=false:=by rw[hop];rfl
 have HO:=v9h hop;clear hop
 go_enter Tryz.func157,Tryz.ntmps157
 go_upto_region 1 with fail
 generalize hW:World.alloc _ _=W1 at *
 have hb1:Below w.heap.size w W1:=by rw[←hW];exact(by repeat(first|assumption|exact v9r|apply zc|apply zd|apply zg|apply ze|apply zi))
 have bt:Box W1 w.heap.size [.slice AH cs.length cH,.string f.cls,.string f.name,.bool f.static,.int .i64 f.nparams,.slice AV f.vars.length cV,.string f.result,.slice AC f.code.length cC] 257:=by rw[←hW];exact(by repeat(first|(refine Box.at ?_;(simp;done))|apply Box.drew|apply Box.alloc|assumption))
 have bx:Box W1 (w.heap.size+1) [.int .i64 x.op,.int .i64 x.dst,.int .i64 x.a,.int .i64 x.b,.int .i64 x.n,.string x.cls,.string x.name,.slice AI x.args.length cI,.int .i64 x.jmp,.int .i64 x.hnd] 59:=by rw[←hW];exact(by repeat(first|(refine Box.at ?_;(simp;done))|apply Box.drew|apply Box.alloc|assumption))
 clear hW;have hva:=H.out.hg.va (by rw[HO.out];rfl) (by rw[HO.out];decide)
 have hdc:Hid (x.dst≠ -1→varB f.vars.length x.dst=true):=fun h=>by
  rcases H.out.hg.d (by rw[HO.out];rfl) with h2|⟨_,h2⟩
  ·exact h2
  ·exact absurd h2 h
 have HC1:Hid (∀y:zk W1,Calls Tryz.prog 232 #[.agg #[.slice AH cs.length cH,.string f.cls,.string f.name,.bool f.static,.int .i64 f.nparams,.slice AV f.vars.length cV,.string f.result,.slice AC f.code.length cC],.int .i64 x.a] y.W fun e w'=>e = .returned (.string (tyOf f.vars x.a))∧Below y.W.heap.size y.W w'):=fun y=>yU cs f AH AV AC cH cV cC _ y.W hva (H.out.hv.mono (za hb1 y.h))
 have HC2:Hid (∀y:zk W1,Calls Tryz.prog 234 #[.agg #[.slice AH cs.length cH,.string f.cls,.string f.name,.bool f.static,.int .i64 f.nparams,.slice AV f.vars.length cV,.string f.result,.slice AC f.code.length cC],.string (tyOf f.vars x.a)] y.W fun e w'=>e = .returned (.bool (zW cs (tyOf f.vars x.a)))∧Below y.W.heap.size y.W w'):=fun y=>js cs f AH AV AC cH cV cC _ y.W (by have:=H.out.hl;omega) (H.out.hs.mono (za hb1 y.h))
 generalize zW cs (tyOf f.vars x.a)=ic at *
 generalize tyOf f.vars x.a=ta at *
 have t0:=bt.cell 0 rfl;have t1:=bt.cell 1 rfl;have t2:=bt.cell 2 rfl;have t3:=bt.cell 3 rfl;have t4:=bt.cell 4 rfl;have t5:=bt.cell 5 rfl;have t6:=bt.cell 6 rfl;have t7:=bt.cell 7 rfl;have tl:=bt.lt;have x0:=bx.cell 0 rfl;have x1:=bx.cell 1 rfl;have x2:=bx.cell 2 rfl;have x3:=bx.cell 3 rfl;have x4:=bx.cell 4 rfl;have x5:=bx.cell 5 rfl;have x6:=bx.cell 6 rfl;have x7:=bx.cell 7 rfl;have x8:=bx.cell 8 rfl;have x9:=bx.cell 9 rfl;have xl:=bx.lt
 cases ic with
 |false=>
  have HB:Hid (r=8):=by show r=8;rw[HT.out];rfl
  go_upto_region 27 with fail
  refine zm (by kernel_rfl) (by kernel_rfl) ?_
  repeat(go_big_quiet_step (first|(go_at_call 232;with_reducible exact Calls.later (HC1.out _))|(go_at_call 234;with_reducible exact Calls.later (HC2.out _))))
  refine wpQuiet_nil ?_;rintro _ ⟨y,rfl⟩
  go_wp2_with fail
  go_ret
  exact⟨by rw[HB.out];rfl,za hb1 y.h⟩
 |true=>
  cases hq:(ta.toList==x.cls.toList) with
  |false=>
   have hq':(ta.toList != x.cls.toList)=true:=by rw[bne,hq];rfl
   have HB:Hid (r=8):=by show r=8;rw[HT.out,hq];rfl
   go_upto_region 27 with fail
   refine zm (by kernel_rfl) (by kernel_rfl) ?_
   repeat(go_big_quiet_step (first|(go_at_call 232;with_reducible exact Calls.later (HC1.out _))|(go_at_call 234;with_reducible exact Calls.later (HC2.out _))))
   refine wpQuiet_nil ?_;rintro _ ⟨y,rfl⟩
   go_wp2_with fail
   go_ret
   exact⟨by rw[HB.out];rfl,za hb1 y.h⟩
  |true=>
   have hq':(ta.toList != x.cls.toList)=false:=by rw[bne,hq];rfl
   have HT2:Hid (r=match sgAt cs (zU cs x.cls x.name) with
    |none=>6
    |some g=>if g.static then 6 else yN cs f.vars x g):=by show r=_;rw[HT.out,hq];rfl
   clear HT
   go_upto_region 27 with fail
   refine zm (by kernel_rfl) (by kernel_rfl) ?_
   repeat(go_big_quiet_step (first|(go_at_call 232;with_reducible exact Calls.later (HC1.out _))|(go_at_call 234;with_reducible exact Calls.later (HC2.out _))))
   refine wpQuiet_nil ?_;rintro _ ⟨y,rfl⟩;have hb2:=za hb1 y.h;have bt2:=bt.mono y.h;have bx2:=bx.mono y.h;obtain⟨W2,hW2⟩:∃W2,W2=y.W:=⟨_,rfl⟩
   rw[←hW2] at hb2 bt2 bx2 ⊢;clear hW2 HC1 HC2 hq hq';clear t0 t1 t2 t3 t4 t5 t6 t7 tl x0 x1 x2 x3 x4 x5 x6 x7 x8 x9 xl;have t0:=bt2.cell 0 rfl;have t1:=bt2.cell 1 rfl;have t2:=bt2.cell 2 rfl;have t3:=bt2.cell 3 rfl;have t4:=bt2.cell 4 rfl;have t5:=bt2.cell 5 rfl;have t6:=bt2.cell 6 rfl;have t7:=bt2.cell 7 rfl;have tl:=bt2.lt;have x0:=bx2.cell 0 rfl;have x1:=bx2.cell 1 rfl;have x2:=bx2.cell 2 rfl;have x3:=bx2.cell 3 rfl;have x4:=bx2.cell 4 rfl;have x5:=bx2.cell 5 rfl;have x6:=bx2.cell 6 rfl;have x7:=bx2.cell 7 rfl;have x8:=bx2.cell 8 rfl;have x9:=bx2.cell 9 rfl;have xl:=bx2.lt
   go_wp2_with fail
   refine(abp AH cH cs x.cls x.name _ H.out.hl H.out.hcc (H.out.hs.mono hb2) H.out.hok.names (v9h H.out.hlk) H.out.hxc).mono ?_;rintro e w3 ⟨hR,hq3⟩;have hb3:=za hb2 hq3;have bt3:=bt2.mono hq3;have bx3:=bx2.mono hq3;clear t0 t1 t2 t3 t4 t5 t6 t7 tl x0 x1 x2 x3 x4 x5 x6 x7 x8 x9 xl;have hF:=hR.toS;clear hR
   cases hsg:sgAt cs (zU cs x.cls x.name) with
   |none=>
    have HB:Hid (r=6):=by show r=6;rw[HT2.out,hsg]
    obtain rfl:=hF.no hsg;clear hF hsg
    go_wp2_with fail
    go_ret
    exact⟨by rw[HB.out];rfl,zc hb3⟩
   |some g=>
    obtain⟨nm,AP,cP,rfl,hps3⟩:=hF.yes g hsg;have hgo:=ahZ (adC hsg) H.out.hok H.out.hlk;have HT3:Hid (r=if g.static then 6 else yN cs f.vars x g):=by show r=_;rw[HT2.out,hsg]
    clear hF hsg HT2
    cases hst:g.static with
    |true=>
     have HB:Hid (r=6):=by show r=6;rw[HT3.out,hst];rfl
     go_wp2_with fail
     go_ret
     exact⟨by rw[HB.out];rfl,zc hb3⟩
    |false=>
     have HB:Hid (r=yN cs f.vars x g):=by show r=_;rw[HT3.out,hst];rfl
     clear HT3
     go_upto_region 30 with fail
     generalize hW4:World.alloc _ _=W4 at *
     have hb4:Below w.heap.size w W4:=by rw[←hW4];exact zc hb3
     have h34:Below w3.heap.size w3 W4:=by rw[←hW4];exact zc (v9r)
     have bq:Box W4 w3.heap.size [.string g.name,.bool false,.slice AP g.params.length cP,.string g.result] 36:=by rw[←hW4];exact(by repeat(first|(refine Box.at ?_;(simp;done))|apply Box.drew|apply Box.alloc|assumption))
     have bt4:=bt3.mono h34;have bx4:=bx3.mono h34;have hps:=hps3.mono h34;clear hW4 h34;have t0:=bt4.cell 0 rfl;have t1:=bt4.cell 1 rfl;have t2:=bt4.cell 2 rfl;have t3:=bt4.cell 3 rfl;have t4:=bt4.cell 4 rfl;have t5:=bt4.cell 5 rfl;have t6:=bt4.cell 6 rfl;have t7:=bt4.cell 7 rfl;have tl:=bt4.lt;have x0:=bx4.cell 0 rfl;have x1:=bx4.cell 1 rfl;have x2:=bx4.cell 2 rfl;have x3:=bx4.cell 3 rfl;have x4:=bx4.cell 4 rfl;have x5:=bx4.cell 5 rfl;have x6:=bx4.cell 6 rfl;have x7:=bx4.cell 7 rfl;have x8:=bx4.cell 8 rfl;have x9:=bx4.cell 9 rfl;have xl:=bx4.lt;have g0:=bq.cell 0 rfl;have g1:=bq.cell 1 rfl;have g2:=bq.cell 2 rfl;have g3:=bq.cell 3 rfl;have gl:=bq.lt;have hC:=aaW cs f x g AH AV AC AI AP cH cV cC cI cP W4 H.out.hl H.out.hcc (H.out.hs.mono hb4) H.out.hok.names (H.out.hv.mono hb4) (v9h H.out.hvo) (H.out.ha.mono hb4) H.out.hla (v9h H.out.hg.s) hps hgo.1 hgo.2 hdc;rw[hst] at hC
     go_wp2_with fail
     with_reducible refine hC.mono ?_
     rintro e w8 ⟨rfl,hq8⟩
     go_wp2_with fail
     go_ret
     exact⟨by rw[HB.out];rfl,za hb4 hq8⟩
theorem aeE(cs:List Cls)(f:Fun)(x:Ins)(AH AV AC AI:Option Addr)(cH cV cC cI:Nat)(w:World)(H:Hid (TyH w cs f x AH AV AI cH))(hop:x.op=10) :
  Calls Tryz.prog 157 #[.agg #[.slice AH cs.length cH,.string f.cls,.string f.name,.bool f.static,.int .i64 f.nparams,.slice AV f.vars.length cV,.string f.result,.slice AC f.code.length cC],.agg #[.int .i64 x.op,.int .i64 x.dst,.int .i64 x.a,.int .i64 x.b,.int .i64 x.n,.string x.cls,.string x.name,.slice AI x.args.length cI,.int .i64 x.jmp,.int .i64 x.hnd]] w fun e w'=>e = .returned (.int .i64 (insT cs f.vars f.result x))∧Below w.heap.size w w':=by
 obtain⟨r,HR⟩:∃r,Hid (r=insT cs f.vars f.result x):=⟨_,v9h rfl⟩
 rw[←HR.out]
 have HT:Hid (r=match qv cs x with
  |none=>6
  |some g=>yN cs f.vars x g):=by show r=_;rw[HR.out];simp[insT,hop]<;>rfl
 clear HR;have e1:(x.op==1)=false:=by rw[hop];rfl
 have e5:(x.op==5)=false:=by rw[hop];rfl
 have e2:(x.op==2)=false:=by rw[hop];rfl
 have e3:(x.op==3)=false:=by rw[hop];rfl
 have e16:(x.op==16)=false:=by rw[hop];rfl
 have e11:(x.op==11)=false:=by rw[hop];rfl
 have e14:(x.op==14)=false:=by rw[hop];rfl
 have e4:(x.op==4)=false:=by rw[hop];rfl
 have e6:(x.op==6)=false:=by rw[hop];rfl
 have e15:(x.op==15)=false:=by rw[hop];rfl
 have e7:(x.op==7)=false:=by rw[hop];rfl
 have e8:(x.op==8)=false:=by rw[hop];rfl
 have e9:(x.op==9)=false:=by rw[hop];rfl
 have e10:(x.op==10)=true:=by rw[hop];rfl
 have e13:(x.op==13)=false:=by rw[hop];rfl
 have HO:=v9h hop;clear hop
 go_enter Tryz.func157,Tryz.ntmps157
 go_upto_region 1 with fail
 generalize hW:World.alloc _ _=W1 at *
 have hb1:Below w.heap.size w W1:=by rw[←hW];exact(by repeat(first|assumption|exact v9r|apply zc|apply zd|apply zg|apply ze|apply zi))
 have bt:Box W1 w.heap.size [.slice AH cs.length cH,.string f.cls,.string f.name,.bool f.static,.int .i64 f.nparams,.slice AV f.vars.length cV,.string f.result,.slice AC f.code.length cC] 257:=by rw[←hW];exact(by repeat(first|(refine Box.at ?_;(simp;done))|apply Box.drew|apply Box.alloc|assumption))
 have bx:Box W1 (w.heap.size+1) [.int .i64 x.op,.int .i64 x.dst,.int .i64 x.a,.int .i64 x.b,.int .i64 x.n,.string x.cls,.string x.name,.slice AI x.args.length cI,.int .i64 x.jmp,.int .i64 x.hnd] 59:=by rw[←hW];exact(by repeat(first|(refine Box.at ?_;(simp;done))|apply Box.drew|apply Box.alloc|assumption))
 clear hW
 have hdc:Hid (x.dst≠ -1→varB f.vars.length x.dst=true):=fun h=>by
  rcases H.out.hg.d (by rw[HO.out];rfl) with h2|⟨_,h2⟩
  ·exact h2
  ·exact absurd h2 h
 have t0:=bt.cell 0 rfl;have t1:=bt.cell 1 rfl;have t2:=bt.cell 2 rfl;have t3:=bt.cell 3 rfl;have t4:=bt.cell 4 rfl;have t5:=bt.cell 5 rfl;have t6:=bt.cell 6 rfl;have t7:=bt.cell 7 rfl;have tl:=bt.lt;have x0:=bx.cell 0 rfl;have x1:=bx.cell 1 rfl;have x2:=bx.cell 2 rfl;have x3:=bx.cell 3 rfl;have x4:=bx.cell 4 rfl;have x5:=bx.cell 5 rfl;have x6:=bx.cell 6 rfl;have x7:=bx.cell 7 rfl;have x8:=bx.cell 8 rfl;have x9:=bx.cell 9 rfl;have xl:=bx.lt
 go_wp2_with fail
 refine(ac5 cs f x AH AV AC AI cH cV cC cI _ H.out.hl (H.out.hs.mono hb1) (v9h H.out.hlk)).mono ?_;rintro e w3 ⟨hR,hq3⟩;have hb3:=za hb1 hq3;have bt3:=bt.mono hq3;have bx3:=bx.mono hq3;clear t0 t1 t2 t3 t4 t5 t6 t7 tl x0 x1 x2 x3 x4 x5 x6 x7 x8 x9 xl
 cases hsg:qv cs x with
 |none=>
  have HB:Hid (r=6):=by show r=6;rw[HT.out,hsg]
  obtain rfl:=hR.no hsg;clear hR hsg
  go_wp2_with fail
  go_ret
  exact⟨by rw[HB.out];rfl,zc hb3⟩
 |some g=>
  obtain⟨AP,cP,rfl,hps3,_,hst⟩:=hR.yes g hsg;have hgo:=ahZ (acC hsg) H.out.hok H.out.hlk;have HB:Hid (r=yN cs f.vars x g):=by show r=_;rw[HT.out,hsg]
  clear hR hsg HT
  go_upto_region 35 with fail
  generalize hW4:World.alloc _ _=W4 at *
  have hb4:Below w.heap.size w W4:=by rw[←hW4];exact zc hb3
  have h34:Below w3.heap.size w3 W4:=by rw[←hW4];exact zc (v9r)
  have bq:Box W4 w3.heap.size [.string g.name,.bool true,.slice AP g.params.length cP,.string g.result] 36:=by rw[←hW4];exact(by repeat(first|(refine Box.at ?_;(simp;done))|apply Box.drew|apply Box.alloc|assumption))
  have bt4:=bt3.mono h34;have bx4:=bx3.mono h34;have hps:=hps3.mono h34;clear hW4 h34;have t0:=bt4.cell 0 rfl;have t1:=bt4.cell 1 rfl;have t2:=bt4.cell 2 rfl;have t3:=bt4.cell 3 rfl;have t4:=bt4.cell 4 rfl;have t5:=bt4.cell 5 rfl;have t6:=bt4.cell 6 rfl;have t7:=bt4.cell 7 rfl;have tl:=bt4.lt;have x0:=bx4.cell 0 rfl;have x1:=bx4.cell 1 rfl;have x2:=bx4.cell 2 rfl;have x3:=bx4.cell 3 rfl;have x4:=bx4.cell 4 rfl;have x5:=bx4.cell 5 rfl;have x6:=bx4.cell 6 rfl;have x7:=bx4.cell 7 rfl;have x8:=bx4.cell 8 rfl;have x9:=bx4.cell 9 rfl;have xl:=bx4.lt;have g0:=bq.cell 0 rfl;have g1:=bq.cell 1 rfl;have g2:=bq.cell 2 rfl;have g3:=bq.cell 3 rfl;have gl:=bq.lt;have hC:=aaW cs f x g AH AV AC AI AP cH cV cC cI cP W4 H.out.hl H.out.hcc (H.out.hs.mono hb4) H.out.hok.names (H.out.hv.mono hb4) (v9h H.out.hvo) (H.out.ha.mono hb4) H.out.hla (v9h H.out.hg.s) hps hgo.1 hgo.2 hdc;rw[hst] at hC
  go_wp2_with fail
  with_reducible refine hC.mono ?_
  rintro e w8 ⟨rfl,hq8⟩
  go_wp2_with fail
  go_ret
  exact⟨by rw[HB.out];rfl,za hb4 hq8⟩
theorem aeF(cs:List Cls)(f:Fun)(x:Ins)(AH AV AC AI:Option Addr)(cH cV cC cI:Nat)(w:World)(H:Hid (TyH w cs f x AH AV AI cH))(hop:x.op=13) :
  Calls Tryz.prog 157 #[.agg #[.slice AH cs.length cH,.string f.cls,.string f.name,.bool f.static,.int .i64 f.nparams,.slice AV f.vars.length cV,.string f.result,.slice AC f.code.length cC],.agg #[.int .i64 x.op,.int .i64 x.dst,.int .i64 x.a,.int .i64 x.b,.int .i64 x.n,.string x.cls,.string x.name,.slice AI x.args.length cI,.int .i64 x.jmp,.int .i64 x.hnd]] w fun e w'=>e = .returned (.int .i64 (insT cs f.vars f.result x))∧Below w.heap.size w w':=by
 obtain⟨r,HR⟩:∃r,Hid (r=insT cs f.vars f.result x):=⟨_,v9h rfl⟩
 rw[←HR.out];have HT:Hid (r=if((x.a == -1) != f.result.toList.isEmpty)=true then 9 else zM ((x.a == -1)||zB cs (tyOf f.vars x.a) f.result)):=by show r=_;rw[HR.out,←yC x.a (-1)];simp[insT,hop]<;>rfl
 clear HR;have e1:(x.op==1)=false:=by rw[hop];rfl
 have e5:(x.op==5)=false:=by rw[hop];rfl
 have e2:(x.op==2)=false:=by rw[hop];rfl
 have e3:(x.op==3)=false:=by rw[hop];rfl
 have e16:(x.op==16)=false:=by rw[hop];rfl
 have e11:(x.op==11)=false:=by rw[hop];rfl
 have e14:(x.op==14)=false:=by rw[hop];rfl
 have e4:(x.op==4)=false:=by rw[hop];rfl
 have e6:(x.op==6)=false:=by rw[hop];rfl
 have e15:(x.op==15)=false:=by rw[hop];rfl
 have e7:(x.op==7)=false:=by rw[hop];rfl
 have e8:(x.op==8)=false:=by rw[hop];rfl
 have e9:(x.op==9)=false:=by rw[hop];rfl
 have e10:(x.op==10)=false:=by rw[hop];rfl
 have e13:(x.op==13)=true:=by rw[hop];rfl
 have HO:=v9h hop;clear hop
 go_enter Tryz.func157,Tryz.ntmps157
 go_upto_region 1 with fail
 generalize hW:World.alloc _ _=W1 at *
 have hb1:Below w.heap.size w W1:=by rw[←hW];exact(by repeat(first|assumption|exact v9r|apply zc|apply zd|apply zg|apply ze|apply zi))
 have bt:Box W1 w.heap.size [.slice AH cs.length cH,.string f.cls,.string f.name,.bool f.static,.int .i64 f.nparams,.slice AV f.vars.length cV,.string f.result,.slice AC f.code.length cC] 257:=by rw[←hW];exact(by repeat(first|(refine Box.at ?_;(simp;done))|apply Box.drew|apply Box.alloc|assumption))
 have bx:Box W1 (w.heap.size+1) [.int .i64 x.op,.int .i64 x.dst,.int .i64 x.a,.int .i64 x.b,.int .i64 x.n,.string x.cls,.string x.name,.slice AI x.args.length cI,.int .i64 x.jmp,.int .i64 x.hnd] 59:=by rw[←hW];exact(by repeat(first|(refine Box.at ?_;(simp;done))|apply Box.drew|apply Box.alloc|assumption))
 clear hW;have t0:=bt.cell 0 rfl;have t1:=bt.cell 1 rfl;have t2:=bt.cell 2 rfl;have t3:=bt.cell 3 rfl;have t4:=bt.cell 4 rfl;have t5:=bt.cell 5 rfl;have t6:=bt.cell 6 rfl;have t7:=bt.cell 7 rfl;have tl:=bt.lt;have x0:=bx.cell 0 rfl;have x1:=bx.cell 1 rfl;have x2:=bx.cell 2 rfl;have x3:=bx.cell 3 rfl;have x4:=bx.cell 4 rfl;have x5:=bx.cell 5 rfl;have x6:=bx.cell 6 rfl;have x7:=bx.cell 7 rfl;have x8:=bx.cell 8 rfl;have x9:=bx.cell 9 rfl;have xl:=bx.lt;have hre:((f.result.toList==([]:List UInt8))=true∧f.result.toList.isEmpty=true)∨((f.result.toList==([]:List UInt8))=false∧f.result.toList.isEmpty=false):=by cases f.result.toList<;>simp
 cases hm:(x.a == -1) with
 |true=>
  rcases hre with⟨h1,h2⟩|⟨h1,h2⟩
  ·have HB:Hid (r=0):=by show r=0;rw[HT.out,hm,h2];rfl
   go_upto_region 41 with fail
   refine zm (by kernel_rfl) (by kernel_rfl) ?_
   repeat(go_big_quiet_step (first|(go_at_call 229;with_reducible exact Calls.later_same (zP true _))))
   refine wpQuiet_nil ?_;rintro _ ⟨y,rfl⟩
   go_wp2_with fail
   go_ret
   exact⟨by rw[HB.out];rfl,za hb1 y.h⟩
  ·have HB:Hid (r=9):=by show r=9;rw[HT.out,hm,h2];rfl
   go_wp2_with fail
   go_ret
   exact⟨by rw[HB.out];rfl,hb1⟩
 |false=>
  rcases hre with⟨h1,h2⟩|⟨h1,h2⟩
  ·have HB:Hid (r=9):=by show r=9;rw[HT.out,hm,h2];rfl
   go_wp2_with fail
   go_ret
   exact⟨by rw[HB.out];rfl,hb1⟩
  ·have hva:varB f.vars.length x.a=true:=by
    rcases H.out.hg.a (by rw[HO.out];rfl) with h|⟨_,h⟩
    ·exact h
    ·rw[h] at hm;cases hm
   have HB:Hid (r=zM (zB cs (tyOf f.vars x.a) f.result)):=by show r=_;rw[HT.out,hm,h2];rfl
   clear HT;have HC1:Hid (∀y:zk W1,Calls Tryz.prog 232 #[.agg #[.slice AH cs.length cH,.string f.cls,.string f.name,.bool f.static,.int .i64 f.nparams,.slice AV f.vars.length cV,.string f.result,.slice AC f.code.length cC],.int .i64 x.a] y.W fun e w'=>e = .returned (.string (tyOf f.vars x.a))∧Below y.W.heap.size y.W w'):=fun y=>yU cs f AH AV AC cH cV cC _ y.W hva (H.out.hv.mono (za hb1 y.h))
   have HC2:Hid (∀y:zk W1,Calls Tryz.prog 231 #[.agg #[.slice AH cs.length cH,.string f.cls,.string f.name,.bool f.static,.int .i64 f.nparams,.slice AV f.vars.length cV,.string f.result,.slice AC f.code.length cC],.string (tyOf f.vars x.a),.string f.result] y.W fun e w'=>e = .returned (.bool (zB cs (tyOf f.vars x.a) f.result))∧Below y.W.heap.size y.W w'):=fun y=>qo cs f AH AV AC cH cV cC _ _ y.W H.out.hl H.out.hcc (H.out.hs.mono (za hb1 y.h)) H.out.hok.names (xu H.out.hvo _)
   generalize zB cs (tyOf f.vars x.a) f.result=fb at *
   generalize tyOf f.vars x.a=ta at *
   go_upto_region 41 with fail
   refine zm (by kernel_rfl) (by kernel_rfl) ?_
   repeat(go_big_quiet_step (first|(go_at_call 232;with_reducible exact Calls.later (HC1.out _))|(go_at_call 231;with_reducible exact Calls.later (HC2.out _))|(go_at_call 229;with_reducible exact Calls.later_same (zP fb _))))
   refine wpQuiet_nil ?_;rintro _ ⟨y,rfl⟩
   go_wp2_with fail
   go_ret
   exact⟨by rw[HB.out];rfl,za hb1 y.h⟩
theorem adD(cs:List Cls)(f:Fun)(x:Ins)(AH AV AC AI:Option Addr)(cH cV cC cI:Nat)(w:World)(H:Hid (TyH w cs f x AH AV AI cH))(hk:zH x.op=true) :
  Calls Tryz.prog 157 #[.agg #[.slice AH cs.length cH,.string f.cls,.string f.name,.bool f.static,.int .i64 f.nparams,.slice AV f.vars.length cV,.string f.result,.slice AC f.code.length cC],.agg #[.int .i64 x.op,.int .i64 x.dst,.int .i64 x.a,.int .i64 x.b,.int .i64 x.n,.string x.cls,.string x.name,.slice AI x.args.length cI,.int .i64 x.jmp,.int .i64 x.hnd]] w fun e w'=>e = .returned (.int .i64 (insT cs f.vars f.result x))∧Below w.heap.size w w':=by
 unfold zH at hk;simp only[Bool.and_eq_true,decide_eq_true_eq] at hk;have:x.op=0∨x.op=1∨x.op=2∨x.op=3∨x.op=4∨x.op=5∨x.op=6∨x.op=7∨x.op=8∨x.op=9∨x.op=10∨x.op=11∨x.op=12∨x.op=13∨x.op=14∨x.op=15∨x.op=16:=by omega
 rcases this with h|h|h|h|h|h|h|h|h|h|h|h|h|h|h|h|h
 ·exact afv cs f x AH AV AC AI cH cV cC cI w H h
 ·exact afw cs f x AH AV AC AI cH cV cC cI w H h
 ·exact afy cs f x AH AV AC AI cH cV cC cI w H h
 ·exact afz cs f x AH AV AC AI cH cV cC cI w H h
 ·exact afA cs f x AH AV AC AI cH cV cC cI w H h
 ·exact afx cs f x AH AV AC AI cH cV cC cI w H h
 ·exact afB cs f x AH AV AC AI cH cV cC cI w H h
 ·exact afC cs f x AH AV AC AI cH cV cC cI w H h
 ·exact afD cs f x AH AV AC AI cH cV cC cI w H h
 ·exact afE cs f x AH AV AC AI cH cV cC cI w H h
 ·exact aeE cs f x AH AV AC AI cH cV cC cI w H h
 ·exact aeA cs f x AH AV AC AI cH cV cC cI w H h
 ·exact aez cs f x AH AV AC AI cH cV cC cI w H h
 ·exact aeF cs f x AH AV AC AI cH cV cC cI w H h
 ·exact aeB cs f x AH AV AC AI cH cV cC cI w H h
 ·exact aeD cs f x AH AV AC AI cH cV cC cI w H h
 ·exact aeC cs f x AH AV AC AI cH cV cC cI w H h
end Go.Proofs.YtmhdambkchlilaaGreatDoor
