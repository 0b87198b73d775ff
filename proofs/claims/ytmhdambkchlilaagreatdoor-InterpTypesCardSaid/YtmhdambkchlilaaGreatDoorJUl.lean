/- Chapter 13: typer.call: the error of the types of a call. Chapter 13: typer.field: the error of the types of a load or store. -/
import Derived.Test.YtmhdambkchlilaaGreatDoorJUh
namespace Go.Proofs.YtmhdambkchlilaaGreatDoor
open Go.RowKit
set_option linter.unusedVariables false
set_option maxRecDepth 100000
set_option maxHeartbeats 4000000
def xK(cs:List Cls)(vars:List Fld)(c:Ins)(g:Sg)(i:Nat):Bool:= !zB cs (tyOf vars ((c.args[i]?).getD 0)) ((g.params[i]?).getD ByteArray.empty)
def abx(cs:List Cls)(vars:List Fld)(c:Ins)(g:Sg):Bool:=decide (c.dst = -1) || !g.result.toList.isEmpty&&zB cs g.result (tyOf vars c.dst)
theorem acy{cs:List Cls}{vars:List Fld}{c:Ins}{g:Sg}(h:c.args.length≠g.params.length):yN cs vars c g=9:=by unfold yN;rw[if_pos h]
theorem agp{cs:List Cls}{vars:List Fld}{c:Ins}{g:Sg}(h:c.args.length=g.params.length){k:Nat}(hk:k<c.args.length)(hh:xK cs vars c g k=true):yN cs vars c g=8:=by
 unfold yN;rw[if_neg (by omega)];exact if_pos (List.any_eq_true.2 ⟨k,by simpa using hk,hh⟩)
theorem afu{cs:List Cls}{vars:List Fld}{c:Ins}{g:Sg}(h:c.args.length=g.params.length)(hh:∀k,k<c.args.length→xK cs vars c g k=false):yN cs vars c g=zM (abx cs vars c g):=by
 unfold yN abx;rw[if_neg (by omega)]
 exact if_neg (fun h=>by
  obtain⟨k,hk,h⟩:=List.any_eq_true.1 h;have:=hh k (by simpa using hk);unfold xK at this;rw[this] at h;cases h)
theorem ahj{cs:List Cls}{vars:List Fld}{c:Ins}{g:Sg}{k:Nat}(h1:k<c.args.length)(h2:k<g.params.length):xK cs vars c g k = !zB cs (tyOf vars c.args[k]) g.params[k]:=by
 unfold xK;rw[List.getElem?_eq_getElem h1,List.getElem?_eq_getElem h2];rfl
theorem xu{vars:List Fld}(h:∀v∈vars,zG v.typ)(v:Int):zG (tyOf vars v):=by
 unfold tyOf
 cases hv:vars[v.toNat]? with
 |none=>show ByteArray.empty.size≤_;decide
 |some y=>exact h y (List.mem_of_getElem? hv)
theorem aaW(cs:List Cls)(f:Fun)(x:Ins)(g:Sg)(AH AV AC AI AP:Option Addr)(cH cV cC cI cP:Nat)(w:World)(hl:cs.length≤8796093022208)(hcc:cs.length≤cH)(hs:Sl Lay.cls w AH cs)(hok:Hid (qq cs))
  (hv:Sl Lay.fld w AV f.vars) (hvo:Hid (∀v∈f.vars,zG v.typ)) (ha:Sl Lay.int w AI x.args) (hla:x.args.length≤17592186044416) (hva:Hid (∀v∈x.args,varB f.vars.length v=true))
  (hp:Sl Lay.str w AP g.params) (hlp:g.params.length≤8796093022208) (hgr:zG g.result) (hd:Hid (x.dst≠ -1→varB f.vars.length x.dst=true)) :
  Calls Tryz.prog 235 #[.agg #[.slice AH cs.length cH,.string f.cls,.string f.name,.bool f.static,.int .i64 f.nparams,.slice AV f.vars.length cV,.string f.result,.slice AC f.code.length cC],.agg #[.int .i64 x.op,.int .i64 x.dst,.int .i64 x.a,.int .i64 x.b,.int .i64 x.n,.string x.cls,.string x.name,.slice AI x.args.length cI,.int .i64 x.jmp,.int .i64 x.hnd],.agg #[.string g.name,.bool g.static,.slice AP g.params.length cP,.string g.result]] w fun e w'=>e = .returned (.int .i64 (yN cs f.vars x g))∧Below w.heap.size w w':=by
 obtain⟨r,HR⟩:∃r,Hid (r=yN cs f.vars x g):=⟨_,v9h rfl⟩
 rw[←HR.out]
 by_cases hlen:x.args.length≠g.params.length
 ·have HB:Hid (r=9):=by show r=9;rw[HR.out,acy hlen]
  have hb0:Below w.heap.size w (((w.alloc (.cells #[.slice AH cs.length cH,.string f.cls,.string f.name,.bool f.static,.int .i64 f.nparams,.slice AV f.vars.length cV,.string f.result,.slice AC f.code.length cC] 257)).alloc (.cells #[.int .i64 x.op,.int .i64 x.dst,.int .i64 x.a,.int .i64 x.b,.int .i64 x.n,.string x.cls,.string x.name,.slice AI x.args.length cI,.int .i64 x.jmp,.int .i64 x.hnd] 59)).alloc (.cells #[.string g.name,.bool g.static,.slice AP g.params.length cP,.string g.result] 36)):=(by repeat(first|assumption|exact v9r|apply zc|apply zd|apply zg|apply ze|apply zi))
  have hq:((x.args.length:Int) != (g.params.length:Int))=true:=by simp;omega
  have hq2:(x.args.length != g.params.length)=true:=by simpa using hlen
  clear hlen
  go_enter Tryz.func235,Tryz.ntmps235
  go_wp2_with fail
  go_ret
  exact⟨by rw[HB.out];rfl,hb0⟩
 replace hlen:x.args.length=g.params.length:=Classical.not_not.1 hlen;have HL:=v9h hlen;have hq:((x.args.length:Int) != (g.params.length:Int))=false:=by simp;omega
 have hq2:(x.args.length != g.params.length)=false:=by simpa using hlen
 clear hlen
 go_enter Tryz.func235,Tryz.ntmps235
 go_wp2_with fail
 generalize hW:World.alloc _ _=W1 at *
 have hb1:Below w.heap.size w W1:=by rw[←hW];exact(by repeat(first|assumption|exact v9r|apply zc|apply zd|apply zg|apply ze|apply zi))
 have bt:Box W1 w.heap.size [.slice AH cs.length cH,.string f.cls,.string f.name,.bool f.static,.int .i64 f.nparams,.slice AV f.vars.length cV,.string f.result,.slice AC f.code.length cC] 257:=by rw[←hW];exact(by repeat(first|(refine Box.at ?_;(simp;done))|apply Box.drew|apply Box.alloc|assumption))
 have bx:Box W1 (w.heap.size+1) [.int .i64 x.op,.int .i64 x.dst,.int .i64 x.a,.int .i64 x.b,.int .i64 x.n,.string x.cls,.string x.name,.slice AI x.args.length cI,.int .i64 x.jmp,.int .i64 x.hnd] 59:=by rw[←hW];exact(by repeat(first|(refine Box.at ?_;(simp;done))|apply Box.drew|apply Box.alloc|assumption))
 have bg:Box W1 (w.heap.size+2) [.string g.name,.bool g.static,.slice AP g.params.length cP,.string g.result] 36:=by rw[←hW];exact(by repeat(first|(refine Box.at ?_;(simp;done))|apply Box.drew|apply Box.alloc|assumption))
 clear hW hq hq2
 go_loopw [7,8,19] (fun _ _ i wr=>∃k:Nat,k≤x.args.length∧i = .int .i64 k∧Hid (∀i,i<k→xK cs f.vars x g i=false)∧Below W1.heap.size W1 wr) (fun _ _ i _=>x.args.length-(intOf i).toNat)
 case atStart=>exact⟨0,Nat.zero_le _,rfl,fun i hi=>by omega,v9r⟩
 case round=>
  obtain⟨k,hk,rfl,HN,hbw⟩:=hrel;have hbw1:=za hb1 hbw;have bt1:=bt.mono hbw;have bx1:=bx.mono hbw;have bg1:=bg.mono hbw
  by_cases hlt:k<x.args.length
  ·have hlt2:k<g.params.length:=by have:=HL.out;omega
   have hvk:=hva.out _ (List.getElem_mem hlt);have HC1:Hid (∀y:zk wr,Calls Tryz.prog 232 #[.agg #[.slice AH cs.length cH,.string f.cls,.string f.name,.bool f.static,.int .i64 f.nparams,.slice AV f.vars.length cV,.string f.result,.slice AC f.code.length cC],.int .i64 x.args[k]] y.W fun e w'=>e = .returned (.string (tyOf f.vars x.args[k]))∧Below y.W.heap.size y.W w'):=fun y=>yU cs f AH AV AC cH cV cC _ y.W hvk (hv.mono (za hbw1 y.h))
   have HC2:Hid (∀y:zk wr,Calls Tryz.prog 231 #[.agg #[.slice AH cs.length cH,.string f.cls,.string f.name,.bool f.static,.int .i64 f.nparams,.slice AV f.vars.length cV,.string f.result,.slice AC f.code.length cC],.string (tyOf f.vars x.args[k]),.string g.params[k]] y.W fun e w'=>e = .returned (.bool (zB cs (tyOf f.vars x.args[k]) g.params[k]))∧Below y.W.heap.size y.W w'):=fun y=>qo cs f AH AV AC cH cV cC _ _ y.W hl hcc (hs.mono (za hbw1 y.h)) hok (xu hvo.out _)
   have HG:=v9h (ahj (cs:=cs) (vars:=f.vars) hlt hlt2);obtain⟨bA,oA,rfl,hbA,a0⟩:=(ha.mono hbw1).int_at hlt;obtain⟨bP,oP,rfl,hbP,p0⟩:=(hp.mono hbw1).str_at hlt2;clear hvk;generalize zB cs (tyOf f.vars x.args[k]) g.params[k]=fb at *
   generalize tyOf f.vars x.args[k]=ty at *
   have t0:=bt1.cell 0 rfl;have t1:=bt1.cell 1 rfl;have t2:=bt1.cell 2 rfl;have t3:=bt1.cell 3 rfl;have t4:=bt1.cell 4 rfl;have t5:=bt1.cell 5 rfl;have t6:=bt1.cell 6 rfl;have t7:=bt1.cell 7 rfl;have tl:=bt1.lt;have g2:=bg1.cell 2 rfl;have gl:=bg1.lt
   go_upto_region 6 with fail
   refine zm (by kernel_rfl) (by kernel_rfl) ?_
   repeat(go_big_quiet_step (first|(go_at_call 232;with_reducible exact Calls.later (HC1.out _))|(go_at_call 231;with_reducible exact Calls.later (HC2.out _))))
   refine wpQuiet_nil ?_;rintro _ ⟨y,rfl⟩;have hby:=za hbw1 y.h
   cases fb with
   |false=>
    have HB:Hid (r=8):=by show r=8;rw[HR.out,agp HL.out hlt (by rw[HG.out];rfl)]
    go_wp2_with fail
    go_ret
    exact⟨by rw[HB.out];rfl,hby⟩
   |true=>
    have HN2:Hid (∀i,i<k+1→xK cs f.vars x g i=false):=fun i hi=>by
     by_cases e:i=k
     ·subst e;rw[HG.out];rfl
     ·exact HN.out i (by omega)
    clear HG HC1 HC2
    go_wp2_with fail
    go_roundw
    case rel=>exact⟨k+1,by omega,by go_num,HN2,za hbw y.h⟩
    case measure=>simp[intOf];omega
  ·have HZ:Hid (r=zM (abx cs f.vars x g)):=by show r=_;rw[HR.out,afu HL.out (fun i hi=>HN.out i (by omega))]
   clear HR HN;have t0:=bt1.cell 0 rfl;have t1:=bt1.cell 1 rfl;have t2:=bt1.cell 2 rfl;have t3:=bt1.cell 3 rfl;have t4:=bt1.cell 4 rfl;have t5:=bt1.cell 5 rfl;have t6:=bt1.cell 6 rfl;have t7:=bt1.cell 7 rfl;have tl:=bt1.lt;have x1:=bx1.cell 1 rfl;have xl:=bx1.lt;have g3:=bg1.cell 3 rfl;have gl:=bg1.lt
   cases hd1:(x.dst == -1) with
   |true=>
    have HB:Hid (r=0):=by show r=0;rw[HZ.out];unfold abx;rw[decide_eq_true (by simpa using hd1)];rfl
    go_upto_region 9 with fail
    refine zm (by kernel_rfl) (by kernel_rfl) ?_
    repeat(go_big_quiet_step (first|(go_at_call 229;with_reducible exact Calls.later_same (zP true _))))
    refine wpQuiet_nil ?_;rintro _ ⟨y,rfl⟩
    go_wp2_with fail
    go_ret
    exact⟨by rw[HB.out];rfl,za hbw1 y.h⟩
   |false=>
    have hdn:x.dst≠ -1:=by simpa using hd1
    have HZ2:Hid (r=zM (!g.result.toList.isEmpty&&zB cs g.result (tyOf f.vars x.dst))):=by show r=_;rw[HZ.out];unfold abx;rw[decide_eq_false hdn];rfl
    have hvd:=hd.out hdn;clear HZ hdn
    cases he:g.result.toList.isEmpty with
    |true=>
     have he2:(g.result.toList==([]:List UInt8))=true:=by simpa using he
     have he3:(g.result.toList != ([]:List UInt8))=false:=by rw[bne,he2];rfl
     have HB:Hid (r=8):=by show r=8;rw[HZ2.out,he];rfl
     go_upto_region 9 with fail
     refine zm (by kernel_rfl) (by kernel_rfl) ?_
     repeat(go_big_quiet_step (first|(go_at_call 229;with_reducible exact Calls.later_same (zP false _))))
     refine wpQuiet_nil ?_;rintro _ ⟨y,rfl⟩
     go_wp2_with fail
     go_ret
     exact⟨by rw[HB.out];rfl,za hbw1 y.h⟩
    |false=>
     have he2:(g.result.toList==([]:List UInt8))=false:=by
      cases h:(g.result.toList==([]:List UInt8)) with
      |false=>rfl
      |true=>rw[beq_iff_eq] at h;rw[h] at he;cases he
     have he3:(g.result.toList != ([]:List UInt8))=true:=by rw[bne,he2];rfl
     have HZ3:Hid (r=zM (zB cs g.result (tyOf f.vars x.dst))):=by show r=_;rw[HZ2.out,he];rfl
     have HC1:Hid (∀y:zk wr,Calls Tryz.prog 232 #[.agg #[.slice AH cs.length cH,.string f.cls,.string f.name,.bool f.static,.int .i64 f.nparams,.slice AV f.vars.length cV,.string f.result,.slice AC f.code.length cC],.int .i64 x.dst] y.W fun e w'=>e = .returned (.string (tyOf f.vars x.dst))∧Below y.W.heap.size y.W w'):=fun y=>yU cs f AH AV AC cH cV cC _ y.W hvd (hv.mono (za hbw1 y.h))
     have HC2:Hid (∀y:zk wr,Calls Tryz.prog 231 #[.agg #[.slice AH cs.length cH,.string f.cls,.string f.name,.bool f.static,.int .i64 f.nparams,.slice AV f.vars.length cV,.string f.result,.slice AC f.code.length cC],.string g.result,.string (tyOf f.vars x.dst)] y.W fun e w'=>e = .returned (.bool (zB cs g.result (tyOf f.vars x.dst)))∧Below y.W.heap.size y.W w'):=fun y=>qo cs f AH AV AC cH cV cC _ _ y.W hl hcc (hs.mono (za hbw1 y.h)) hok hgr
     clear HZ2 hvd;generalize zB cs g.result (tyOf f.vars x.dst)=fb at *
     generalize tyOf f.vars x.dst=ty at *
     go_upto_region 9 with fail
     refine zm (by kernel_rfl) (by kernel_rfl) ?_
     repeat(go_big_quiet_step (first|(go_at_call 232;with_reducible exact Calls.later (HC1.out _))|(go_at_call 231;with_reducible exact Calls.later (HC2.out _))|(go_at_call 229;with_reducible exact Calls.later_same (zP fb _))))
     refine wpQuiet_nil ?_;rintro _ ⟨y,rfl⟩
     go_wp2_with fail
     go_ret
     exact⟨by rw[HZ3.out];rfl,za hbw1 y.h⟩
theorem aig{cs:List Cls}(h:yQ cs)(n:ByteArray)(j:Int):zG (fTyp cs n j):=by
 unfold fTyp
 cases hj:cs[j.toNat]? with
 |none=>show ByteArray.empty.size≤_;decide
 |some c=>
  show zG (((c.fields[(fIdx cs n j).toNat]?).map (·.typ)).getD ByteArray.empty)
  cases hk:c.fields[(fIdx cs n j).toNat]? with
  |none=>show ByteArray.empty.size≤_;decide
  |some y=>exact((h c (List.mem_of_getElem? hj)).2.1 y (List.mem_of_getElem? hk)).2
theorem acz{cs:List Cls}(h:yQ cs)(n:ByteArray):∀l:List Int,zG (ya cs n l).2.1
 |[]=>by show ByteArray.empty.size≤_;decide
 |j::r=>by
  unfold ya
  split
  ·exact aig h n j
  ·exact acz h n r
theorem agq{cs:List Cls}(h:yQ cs)(s n:ByteArray):zG (zz cs s n).2.1:=acz h n _
theorem acA{cs:List Cls}{vars:List Fld}{c:Ins}(h:zW cs (tyOf vars c.a)=false):qg cs vars c=8:=by unfold qg;rw[h];rfl
theorem acB{cs:List Cls}{vars:List Fld}{c:Ins}(h:zW cs (tyOf vars c.a)=true)(h2:(zz cs (tyOf vars c.a) c.name).2.2=false):qg cs vars c=6:=by unfold qg;rw[h,h2];rfl
theorem aey{cs:List Cls}{vars:List Fld}{c:Ins}(h:zW cs (tyOf vars c.a)=true)(h2:(zz cs (tyOf vars c.a) c.name).2.2=true)(h3:c.op=7):qg cs vars c=zM (zB cs (zz cs (tyOf vars c.a) c.name).2.1 (tyOf vars c.dst)):=by
 unfold qg;rw[h,h2,if_pos h3];rfl
theorem adB{cs:List Cls}{vars:List Fld}{c:Ins}(h:zW cs (tyOf vars c.a)=true)(h2:(zz cs (tyOf vars c.a) c.name).2.2=true)(h3:c.op≠7):qg cs vars c=zM (zB cs (tyOf vars c.b) (zz cs (tyOf vars c.a) c.name).2.1):=by
 unfold qg;rw[h,h2,if_neg h3];rfl
theorem aal(cs:List Cls)(f:Fun)(x:Ins)(AH AV AC AI:Option Addr)(cH cV cC cI:Nat)(w:World)(hl:cs.length≤8796093022208)(hcc:cs.length≤cH)(hs:Sl Lay.cls w AH cs)(hok:Hid (yQ cs))(hlk:Hid (yp cs))
  (hv:Sl Lay.fld w AV f.vars) (hvo:Hid (∀v∈f.vars,zG v.typ)) (hva:varB f.vars.length x.a=true) (hvd:Hid (x.op=7→varB f.vars.length x.dst=true)) (hvb:Hid (x.op≠7→varB f.vars.length x.b=true)) :
  Calls Tryz.prog 233 #[.agg #[.slice AH cs.length cH,.string f.cls,.string f.name,.bool f.static,.int .i64 f.nparams,.slice AV f.vars.length cV,.string f.result,.slice AC f.code.length cC],.agg #[.int .i64 x.op,.int .i64 x.dst,.int .i64 x.a,.int .i64 x.b,.int .i64 x.n,.string x.cls,.string x.name,.slice AI x.args.length cI,.int .i64 x.jmp,.int .i64 x.hnd]] w fun e w'=>e = .returned (.int .i64 (qg cs f.vars x))∧Below w.heap.size w w':=by
 obtain⟨r,HR⟩:∃r,Hid (r=qg cs f.vars x):=⟨_,v9h rfl⟩
 rw[←HR.out]
 go_enter Tryz.func233,Tryz.ntmps233
 go_upto_region 1 with fail
 generalize hW:World.alloc _ _=W1 at *
 have hb1:Below w.heap.size w W1:=by rw[←hW];exact(by repeat(first|assumption|exact v9r|apply zc|apply zd|apply zg|apply ze|apply zi))
 have bt:Box W1 w.heap.size [.slice AH cs.length cH,.string f.cls,.string f.name,.bool f.static,.int .i64 f.nparams,.slice AV f.vars.length cV,.string f.result,.slice AC f.code.length cC] 257:=by rw[←hW];exact(by repeat(first|(refine Box.at ?_;(simp;done))|apply Box.drew|apply Box.alloc|assumption))
 have bx:Box W1 (w.heap.size+1) [.int .i64 x.op,.int .i64 x.dst,.int .i64 x.a,.int .i64 x.b,.int .i64 x.n,.string x.cls,.string x.name,.slice AI x.args.length cI,.int .i64 x.jmp,.int .i64 x.hnd] 59:=by rw[←hW];exact(by repeat(first|(refine Box.at ?_;(simp;done))|apply Box.drew|apply Box.alloc|assumption))
 clear hW;have HC1:Hid (∀y:zk W1,Calls Tryz.prog 232 #[.agg #[.slice AH cs.length cH,.string f.cls,.string f.name,.bool f.static,.int .i64 f.nparams,.slice AV f.vars.length cV,.string f.result,.slice AC f.code.length cC],.int .i64 x.a] y.W fun e w'=>e = .returned (.string (tyOf f.vars x.a))∧Below y.W.heap.size y.W w'):=fun y=>yU cs f AH AV AC cH cV cC _ y.W hva (hv.mono (za hb1 y.h))
 have HC2:Hid (∀y:zk W1,Calls Tryz.prog 234 #[.agg #[.slice AH cs.length cH,.string f.cls,.string f.name,.bool f.static,.int .i64 f.nparams,.slice AV f.vars.length cV,.string f.result,.slice AC f.code.length cC],.string (tyOf f.vars x.a)] y.W fun e w'=>e = .returned (.bool (zW cs (tyOf f.vars x.a)))∧Below y.W.heap.size y.W w'):=fun y=>js cs f AH AV AC cH cV cC _ y.W (by omega) (hs.mono (za hb1 y.h))
 have HC3:Hid (∀y:zk W1,Calls Tryz.prog 161 #[.agg #[.slice AH cs.length cH],.string (tyOf f.vars x.a),.string x.name] y.W fun e w'=>e = .returned (.tuple #[.string (zz cs (tyOf f.vars x.a) x.name).1,.string (zz cs (tyOf f.vars x.a) x.name).2.1,.bool (zz cs (tyOf f.vars x.a) x.name).2.2])∧Below y.W.heap.size y.W w'):=fun y=>acu AH cH cs _ _ y.W hl hcc (hs.mono (za hb1 y.h)) hok.out.names hlk (xu hvo.out _)
 have HFO:=v9h (agq hok.out (tyOf f.vars x.a) x.name);have HE1:=v9h (@acA cs f.vars x);have HE2:=v9h (@acB cs f.vars x);have HE3:=v9h (@aey cs f.vars x);have HE4:=v9h (@adB cs f.vars x);generalize zW cs (tyOf f.vars x.a)=ic at *
 generalize zz cs (tyOf f.vars x.a) x.name=fs at *
 obtain⟨fs1,fs2,fs3⟩:=fs;generalize tyOf f.vars x.a=ty at *
 have t0:=bt.cell 0 rfl;have t1:=bt.cell 1 rfl;have t2:=bt.cell 2 rfl;have t3:=bt.cell 3 rfl;have t4:=bt.cell 4 rfl;have t5:=bt.cell 5 rfl;have t6:=bt.cell 6 rfl;have t7:=bt.cell 7 rfl;have tl:=bt.lt;have x0:=bx.cell 0 rfl;have x1:=bx.cell 1 rfl;have x2:=bx.cell 2 rfl;have x3:=bx.cell 3 rfl;have x6:=bx.cell 6 rfl;have xl:=bx.lt;refine zm (by kernel_rfl) (by kernel_rfl) ?_
 repeat(go_big_quiet_step (first|(go_at_call 232;with_reducible exact Calls.later (HC1.out _))|(go_at_call 234;with_reducible exact Calls.later (HC2.out _))))
 refine wpQuiet_nil ?_;rintro _ ⟨y,rfl⟩;have hby:=za hb1 y.h
 cases ic with
 |false=>
  have HB:Hid (r=8):=by show r=8;rw[HR.out,HE1.out rfl]
  go_wp2_with fail
  go_ret
  exact⟨by rw[HB.out];rfl,hby⟩
 |true=>
  obtain⟨W2,hW2⟩:∃W2,W2=y.W:=⟨_,rfl⟩
  have hb2:Below w.heap.size w W2:=by rw[hW2];exact hby
  have bt2:Box W2 w.heap.size [.slice AH cs.length cH,.string f.cls,.string f.name,.bool f.static,.int .i64 f.nparams,.slice AV f.vars.length cV,.string f.result,.slice AC f.code.length cC] 257:=by rw[hW2];exact bt.mono y.h
  have bx2:Box W2 (w.heap.size+1) [.int .i64 x.op,.int .i64 x.dst,.int .i64 x.a,.int .i64 x.b,.int .i64 x.n,.string x.cls,.string x.name,.slice AI x.args.length cI,.int .i64 x.jmp,.int .i64 x.hnd] 59:=by rw[hW2];exact bx.mono y.h
  have hb12:Below W1.heap.size W1 W2:=by rw[hW2];exact y.h
  have HC1':Hid (∀z:zk W2,Calls Tryz.prog 232 #[.agg #[.slice AH cs.length cH,.string f.cls,.string f.name,.bool f.static,.int .i64 f.nparams,.slice AV f.vars.length cV,.string f.result,.slice AC f.code.length cC],.int .i64 x.a] z.W fun e w'=>e = .returned (.string ty)∧Below z.W.heap.size z.W w'):=fun z=>HC1.out ⟨z.W,za hb12 z.h⟩
  have HC3':Hid (∀z:zk W2,Calls Tryz.prog 161 #[.agg #[.slice AH cs.length cH],.string ty,.string x.name] z.W fun e w'=>e = .returned (.tuple #[.string fs1,.string fs2,.bool fs3])∧Below z.W.heap.size z.W w'):=fun z=>HC3.out ⟨z.W,za hb12 z.h⟩
  rw[←hW2];clear hW2 HC1 HC2 HC3 hby t0 t1 t2 t3 t4 t5 t6 t7 tl x0 x1 x2 x3 x6 xl;have t0:=bt2.cell 0 rfl;have t1:=bt2.cell 1 rfl;have t2:=bt2.cell 2 rfl;have t3:=bt2.cell 3 rfl;have t4:=bt2.cell 4 rfl;have t5:=bt2.cell 5 rfl;have t6:=bt2.cell 6 rfl;have t7:=bt2.cell 7 rfl;have tl:=bt2.lt;have x0:=bx2.cell 0 rfl;have x1:=bx2.cell 1 rfl;have x2:=bx2.cell 2 rfl;have x3:=bx2.cell 3 rfl;have x6:=bx2.cell 6 rfl;have xl:=bx2.lt
  go_upto_region 3 with fail
  refine zm (by kernel_rfl) (by kernel_rfl) ?_
  repeat(go_big_quiet_step (first|(go_at_call 232;with_reducible exact Calls.later (HC1'.out _))|(go_at_call 161;with_reducible exact Calls.later (HC3'.out _))))
  refine wpQuiet_nil ?_;rintro _ ⟨z,rfl⟩;have hbz:=za hb2 z.h
  cases fs3 with
  |false=>
   have HB:Hid (r=6):=by show r=6;rw[HR.out,HE2.out rfl rfl]
   go_wp2_with fail
   go_ret
   exact⟨by rw[HB.out];rfl,hbz⟩
  |true=>
   have bt3:=bt2.mono z.h;have bx3:=bx2.mono z.h;obtain⟨W3,hW3⟩:∃W3,W3=z.W:=⟨_,rfl⟩
   rw[←hW3] at hbz bt3 bx3 ⊢;clear hW3 HC1' HC3' t0 t1 t2 t3 t4 t5 t6 t7 tl x0 x1 x2 x3 x6 xl;have t0:=bt3.cell 0 rfl;have t1:=bt3.cell 1 rfl;have t2:=bt3.cell 2 rfl;have t3:=bt3.cell 3 rfl;have t4:=bt3.cell 4 rfl;have t5:=bt3.cell 5 rfl;have t6:=bt3.cell 6 rfl;have t7:=bt3.cell 7 rfl;have tl:=bt3.lt;have x0:=bx3.cell 0 rfl;have x1:=bx3.cell 1 rfl;have x2:=bx3.cell 2 rfl;have x3:=bx3.cell 3 rfl;have xl:=bx3.lt
   cases h7:(x.op==7) with
   |true=>
    have h7':x.op=7:=by simpa using h7
    have HB0:Hid (r=zM (zB cs fs2 (tyOf f.vars x.dst))):=by show r=_;rw[HR.out,HE3.out rfl rfl h7']
    have hvx:=hvd.out h7';have HC1:Hid (∀y:zk W3,Calls Tryz.prog 232 #[.agg #[.slice AH cs.length cH,.string f.cls,.string f.name,.bool f.static,.int .i64 f.nparams,.slice AV f.vars.length cV,.string f.result,.slice AC f.code.length cC],.int .i64 x.dst] y.W fun e w'=>e = .returned (.string (tyOf f.vars x.dst))∧Below y.W.heap.size y.W w'):=fun y=>yU cs f AH AV AC cH cV cC _ y.W hvx (hv.mono (za hbz y.h))
    have HC2:Hid (∀y:zk W3,Calls Tryz.prog 231 #[.agg #[.slice AH cs.length cH,.string f.cls,.string f.name,.bool f.static,.int .i64 f.nparams,.slice AV f.vars.length cV,.string f.result,.slice AC f.code.length cC],.string fs2,.string (tyOf f.vars x.dst)] y.W fun e w'=>e = .returned (.bool (zB cs fs2 (tyOf f.vars x.dst)))∧Below y.W.heap.size y.W w'):=fun y=>qo cs f AH AV AC cH cV cC _ _ y.W hl hcc (hs.mono (za hbz y.h)) hok.out.names HFO.out
    clear h7' hvx HE1 HE2 HE3 HE4;generalize zB cs fs2 (tyOf f.vars x.dst)=fb at *
    generalize tyOf f.vars x.dst=td at *
    go_upto_region 7 with fail
    refine zm (by kernel_rfl) (by kernel_rfl) ?_
    repeat(go_big_quiet_step (first|(go_at_call 232;with_reducible exact Calls.later (HC1.out _))|(go_at_call 231;with_reducible exact Calls.later (HC2.out _))|(go_at_call 229;with_reducible exact Calls.later_same (zP fb _))))
    refine wpQuiet_nil ?_;rintro _ ⟨y,rfl⟩
    go_wp2_with fail
    go_ret
    exact⟨by rw[HB0.out];rfl,za hbz y.h⟩
   |false=>
    have h7':x.op≠7:=by simpa using h7
    have HB0:Hid (r=zM (zB cs (tyOf f.vars x.b) fs2)):=by show r=_;rw[HR.out,HE4.out rfl rfl h7']
    have hvx:=hvb.out h7';have HC1:Hid (∀y:zk W3,Calls Tryz.prog 232 #[.agg #[.slice AH cs.length cH,.string f.cls,.string f.name,.bool f.static,.int .i64 f.nparams,.slice AV f.vars.length cV,.string f.result,.slice AC f.code.length cC],.int .i64 x.b] y.W fun e w'=>e = .returned (.string (tyOf f.vars x.b))∧Below y.W.heap.size y.W w'):=fun y=>yU cs f AH AV AC cH cV cC _ y.W hvx (hv.mono (za hbz y.h))
    have HC2:Hid (∀y:zk W3,Calls Tryz.prog 231 #[.agg #[.slice AH cs.length cH,.string f.cls,.string f.name,.bool f.static,.int .i64 f.nparams,.slice AV f.vars.length cV,.string f.result,.slice AC f.code.length cC],.string (tyOf f.vars x.b),.string fs2] y.W fun e w'=>e = .returned (.bool (zB cs (tyOf f.vars x.b) fs2))∧Below y.W.heap.size y.W w'):=fun y=>qo cs f AH AV AC cH cV cC _ _ y.W hl hcc (hs.mono (za hbz y.h)) hok.out.names (xu hvo.out _)
    clear h7' hvx HE1 HE2 HE3 HE4;generalize zB cs (tyOf f.vars x.b) fs2=fb at *
    generalize tyOf f.vars x.b=td at *
    go_upto_region 8 with fail
    refine zm (by kernel_rfl) (by kernel_rfl) ?_
    repeat(go_big_quiet_step (first|(go_at_call 232;with_reducible exact Calls.later (HC1.out _))|(go_at_call 231;with_reducible exact Calls.later (HC2.out _))|(go_at_call 229;with_reducible exact Calls.later_same (zP fb _))))
    refine wpQuiet_nil ?_;rintro _ ⟨y,rfl⟩
    go_wp2_with fail
    go_ret
    exact⟨by rw[HB0.out];rfl,za hbz y.h⟩
end Go.Proofs.YtmhdambkchlilaaGreatDoor
