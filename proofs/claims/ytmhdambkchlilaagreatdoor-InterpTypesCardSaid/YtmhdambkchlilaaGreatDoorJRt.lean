/- Chapter 12: the answer's fits: whether a function is that of a method. Chapter 12: the answer's numbered: class and signature number n of a hierarchy. Chapter 12: the answer's whole: the error of a unit as a whole. Chapter 12: the answer's checkFunc: the instruction and the error of a function. Chapters 12, 13: the answer's Check: the function, the instruction and the error of a unit. -/
import Derived.IntWalk
import Derived.Test.YtmhdambkchlilaaGreatDoorJRs
import Derived.Test.YtmhdambkchlilaaGreatDoorJUs
import Derived.Test.YtmhdambkchlilaaGreatDoorJGa
import Derived.Test.YtmhdambkchlilaaGreatDoorJHc
namespace Go.Proofs.YtmhdambkchlilaaGreatDoor
open Go.RowKit
set_option linter.unusedVariables false
set_option maxRecDepth 100000
set_option maxHeartbeats 4000000
def offS(m:Sg):Nat:=if m.static then 0 else 1
def yH(P:List ByteArray)(f:Fun)(d i:Nat):Bool:=decide (((f.vars[i+d]?).map (·.typ))=P[i]?)
def kB(cl:ByteArray)(f:Fun):Bool:=decide (((f.vars[0]?).map (·.name.toList))=some qD)&&decide (((f.vars[0]?).map (·.typ))=some cl)
def belR(cl:ByteArray)(m:Sg)(f:Fun):Bool:=
 yo cl m f&&((f.nparams==((m.params.length+offS m:Nat):Int))&&(decide (m.params.length+offS m≤f.vars.length)&&((m.static||kB cl f)&&(List.range m.params.length).all (yH m.params f (offS m)))))
theorem aiE(cl:ByteArray)(m:Sg)(f:Fun):belR cl m f=belB cl m f:=by
 rw[aa9];unfold belR offS
 cases hst:m.static with
 |true=>
  have hp:parL cl m=m.params:=by unfold parL;rw[hst];rfl
  have ho:(List.range m.params.length).all (yH m.params f 0)=(List.range m.params.length).all (qx m.params f):=rfl;rw[hp];simp only[if_true,Nat.add_zero,Bool.true_or,Bool.and_true,Bool.true_and];rw[ho,yC];simp only[Bool.and_assoc]
 |false=>
  have hp:parL cl m=cl::m.params:=by unfold parL;rw[hst];rfl
  rw[hp];simp only[Bool.false_eq_true,if_false,Bool.false_or,List.length_cons];rw[List.range_succ_eq_map,List.all_cons,List.all_map,yC];have h0:qx (cl::m.params) f 0=decide (((f.vars[0]?).map (·.typ))=some cl):=rfl;have h1:(List.range m.params.length).all (qx (cl::m.params) f ∘ Nat.succ)=(List.range m.params.length).all (yH m.params f 1):=rfl;rw[h0,h1];unfold kB;generalize yo cl m f=a;generalize(f.nparams==((m.params.length+1:Nat):Int))=b;generalize decide (m.params.length+1≤f.vars.length)=c;generalize decide (((f.vars[0]?).map (·.name.toList))=some qD)=d;generalize decide (((f.vars[0]?).map (·.typ))=some cl)=e;generalize(List.range m.params.length).all (yH m.params f 1)=g
  revert a b c d e g
  decide
theorem acO{P:List ByteArray}{f:Fun}{d i:Nat}(h1:i<P.length)(h2:i+d<f.vars.length):yH P f d i=(f.vars[i+d].typ.toList==P[i].toList):=by
 unfold yH;rw[List.getElem?_eq_getElem h1,List.getElem?_eq_getElem h2,←kL]
 simp
theorem aeb(cl:ByteArray)(m:Sg)(f:Fun)(AP AV AC:Option Addr)(cP cV cC:Nat)(w:World)(hp:Sl Lay.str w AP m.params)(hpl:m.params.length≤1000000)(hv:Sl Lay.fld w AV f.vars)(hvl:f.vars.length≤8796093022208) :
  Calls Tryz.prog 198 #[.agg #[.string f.cls,.string f.name,.bool f.static,.int .i64 f.nparams,.slice AV f.vars.length cV,.string f.result,.slice AC f.code.length cC],.string cl,.agg #[.string m.name,.bool m.static,.slice AP m.params.length cP,.string m.result]] w fun e w'=>e = .returned (.bool (belB cl m f))∧Below w.heap.size w w':=by
 obtain⟨r,HR⟩:∃r,Hid (r=belB cl m f):=⟨_,v9h rfl⟩
 rw[←HR.out];have HR2:Hid (r=(yo cl m f&&((f.nparams==((m.params.length+offS m:Nat):Int))&&(decide (m.params.length+offS m≤f.vars.length)&&((m.static||kB cl f)&&(List.range m.params.length).all (yH m.params f (offS m))))))):=by show r=_;rw[HR.out,←aiE];rfl
 clear HR
 go_enter Tryz.func198,Tryz.ntmps198
 go_upto_region 1 with fail
 generalize hW:World.alloc _ _=W1 at *
 have hb1:Below w.heap.size w W1:=by rw[←hW];exact(by repeat(first|assumption|exact v9r|apply zc|apply zd|apply zg|apply ze|apply zi))
 have bf:Box W1 w.heap.size [.string f.cls,.string f.name,.bool f.static,.int .i64 f.nparams,.slice AV f.vars.length cV,.string f.result,.slice AC f.code.length cC] 42:=by rw[←hW];exact(Box.new _ _ _).alloc _
 have bm:Box W1 (w.heap.size+1) [.string m.name,.bool m.static,.slice AP m.params.length cP,.string m.result] 36:=by rw[←hW];exact Box.at (by simp)
 clear hW;have m0:=bm.cell 0 rfl;have m1:=bm.cell 1 rfl;have m2:=bm.cell 2 rfl;have m3:=bm.cell 3 rfl;have ml:=bm.lt;have f0:=bf.cell 0 rfl;have f1:=bf.cell 1 rfl;have f2:=bf.cell 2 rfl;have f3:=bf.cell 3 rfl;have f4:=bf.cell 4 rfl;have f5:=bf.cell 5 rfl;have fl:=bf.lt
 go_cut [33] (fun s wx=>s = .bool (!yo cl m f)∧W1=wx)
 case first=>
  have hne:∀a b:List UInt8,(a==b)=true→(a != b)=false:=fun a b h=>by rw[bne,h];rfl
  have hne2:∀a b:List UInt8,(a==b)=false→(a != b)=true:=fun a b h=>by rw[bne,h];rfl
  have hne3:∀a b:Bool,(a==b)=true→(a != b)=false:=fun a b h=>by rw[bne,h];rfl
  have hne4:∀a b:Bool,(a==b)=false→(a != b)=true:=fun a b h=>by rw[bne,h];rfl
  cases h1:(f.cls.toList==cl.toList) with
  |false=>
   have HB:Hid (yo cl m f=false):=by show _=_;unfold yo;rw[h1];rfl
   have h1':=hne2 _ _ h1;clear hne hne2 hne3 hne4
   go_wp2_with fail
   go_meet
   exact⟨by rw[HB.out];rfl,rfl⟩
  |true=>
  have h1':=hne _ _ h1
  cases h2:(f.name.toList==m.name.toList) with
  |false=>
   have HB:Hid (yo cl m f=false):=by show _=_;unfold yo;rw[h1,h2];rfl
   have h2':=hne2 _ _ h2;clear hne hne2 hne3 hne4
   go_wp2_with fail
   go_meet
   exact⟨by rw[HB.out];rfl,rfl⟩
  |true=>
  have h2':=hne _ _ h2
  cases h3:(f.static==m.static) with
  |false=>
   have HB:Hid (yo cl m f=false):=by show _=_;unfold yo;rw[h1,h2,h3];rfl
   have h3':=hne4 _ _ h3;clear hne hne2 hne3 hne4
   go_wp2_with fail
   go_meet
   exact⟨by rw[HB.out];rfl,rfl⟩
  |true=>
  have h3':=hne3 _ _ h3
  cases h4:(f.result.toList==m.result.toList) with
  |false=>
   have HB:Hid (yo cl m f=false):=by show _=_;unfold yo;rw[h1,h2,h3,h4];rfl
   have h4':=hne2 _ _ h4;clear hne hne2 hne3 hne4
   go_wp2_with fail
   go_meet
   exact⟨by rw[HB.out];rfl,rfl⟩
  |true=>
  have h4':=hne _ _ h4;have HB:Hid (yo cl m f=true):=by show _=_;unfold yo;rw[h1,h2,h3,h4];rfl
  clear hne hne2 hne3 hne4
  go_wp2_with fail
  go_meet
  exact⟨by rw[HB.out];rfl,rfl⟩
 case rest=>
 obtain⟨rfl,rfl⟩:=hcut
 cases hbe:yo cl m f with
 |false=>
  have HB:Hid (r=false):=by show r=false;rw[HR2.out,hbe];rfl
  go_wp2_with fail
  go_ret
  exact⟨by rw[HB.out];rfl,hb1⟩
 |true=>
 have HR3:Hid (r=((f.nparams==((m.params.length+offS m:Nat):Int))&&(decide (m.params.length+offS m≤f.vars.length)&&((m.static||kB cl f)&&(List.range m.params.length).all (yH m.params f (offS m)))))):=by show r=_;rw[HR2.out,hbe];rfl
 clear HR2 hbe
 rcases bspU m.static with hst|hst
 ·rw[hst] at m1
  have HO:Hid (offS m=1):=by show _=_;unfold offS;rw[hst];rfl
  have HXX:Hid (((m.params.length+1:Nat):Int)=((m.params.length:Int)+1)):=by show _=_;omega
  have HR4:Hid (r=((f.nparams==((m.params.length:Int)+1))&&(decide (m.params.length+1≤f.vars.length)&&(kB cl f&&(List.range m.params.length).all (yH m.params f 1))))):=by show r=_;rw[HR3.out,HO.out,hst,←HXX.out];rfl
  clear HR3 HO
  rcases bspU (f.nparams==((m.params.length:Int)+1)) with q1|q1
  ·have q1':(f.nparams != ((m.params.length:Int)+1))=true:=by rw[bne,q1];rfl
   have HB:Hid (r=false):=by show r=false;rw[HR4.out,q1];rfl
   go_wp2_with fail
   go_ret
   exact⟨by rw[HB.out];rfl,hb1⟩
  have q1':(f.nparams != ((m.params.length:Int)+1))=false:=by rw[bne,q1];rfl
  by_cases hlv:f.vars.length<m.params.length+1
  ·have HB:Hid (r=false):=by show r=false;rw[HR4.out,decide_eq_false (show ¬m.params.length+1≤f.vars.length by omega)];simp
   have hlvI:(f.vars.length:Int)<((m.params.length:Int)+1):=by omega
   go_wp2_with fail
   go_ret
   exact⟨by rw[HB.out];rfl,hb1⟩
  have hlvI:¬(f.vars.length:Int)<((m.params.length:Int)+1):=by omega
  have HR5:Hid (r=(kB cl f&&(List.range m.params.length).all (yH m.params f 1))):=by show r=_;rw[HR4.out,q1,decide_eq_true (by omega)];rfl
  clear HR4;have h0V:0<f.vars.length:=by omega
  obtain⟨bV,oV,rfl,HVC⟩:=hv.fldC h0V;replace HVC:=v9h HVC;obtain⟨eV,HV0⟩:=HVC.out _ hb1;obtain⟨v0,v1⟩:=HV0 0 h0V;simp only[Nat.zero_mul,Nat.add_zero] at v0 v1;clear HV0
  have HTO:Hid (kB cl f=((f.vars[0].name.toList==[116,104,105,115])&&(f.vars[0].typ.toList==cl.toList))):=by
   show _=_;unfold kB;rw[List.getElem?_eq_getElem h0V,←kL];show(decide (some f.vars[0].name.toList=some qD)&&decide (some f.vars[0].typ=some cl))=_;unfold qD
   cases hh:(f.vars[0].name.toList==[116,104,105,115])<;>simp_all
  rcases bspU (f.vars[0].name.toList==[116,104,105,115]) with t1|t1
  ·have t1':(f.vars[0].name.toList != [116,104,105,115])=true:=by rw[bne,t1];rfl
   have HB:Hid (r=false):=by show r=false;rw[HR5.out,HTO.out,t1];rfl
   go_wp2_with fail
   go_ret
   exact⟨by rw[HB.out];rfl,hb1⟩
  have t1':(f.vars[0].name.toList != [116,104,105,115])=false:=by rw[bne,t1];rfl
  rcases bspU (f.vars[0].typ.toList==cl.toList) with t2|t2
  ·have t2':(f.vars[0].typ.toList != cl.toList)=true:=by rw[bne,t2];rfl
   have HB:Hid (r=false):=by show r=false;rw[HR5.out,HTO.out,t1,t2];rfl
   go_wp2_with fail
   go_ret
   exact⟨by rw[HB.out];rfl,hb1⟩
  have t2':(f.vars[0].typ.toList != cl.toList)=false:=by rw[bne,t2];rfl
  have HR6:Hid (r=(List.range m.params.length).all (yH m.params f 1)):=by show r=_;rw[HR5.out,HTO.out,t1,t2];rfl
  clear HR5 HTO
  go_wp2_with fail
  clear f0 f1 f2 f3 f4 f5 fl m0 m1 m2 m3 ml eV v0 v1
  go_loopw [8] (fun i wr=>∃k:Nat,k≤m.params.length∧i = .int .i64 k∧Hid (∀i,i<k→yH m.params f 1 i=true)∧Below W1.heap.size W1 wr) (fun i _=>m.params.length-(intOf i).toNat)
  case atStart=>exact⟨0,Nat.zero_le _,rfl,fun i hi=>by omega,v9r⟩
  case round=>
   obtain⟨k,hk,rfl,HK,hbr⟩:=hrel;have hbw:=za hb1 hbr;have bf2:=bf.mono hbr;have bm2:=bm.mono hbr;have f4:=bf2.cell 4 rfl;have fl:=bf2.lt;have m2:=bm2.cell 2 rfl;have ml:=bm2.lt
   by_cases hlt:k<m.params.length
   ·have hlt2:k+1<f.vars.length:=by omega
    obtain⟨bP,oP,rfl,hbP,p0⟩:=(hp.mono hbw).str_at hlt;obtain⟨hbV,HV0⟩:=HVC.out _ hbw;obtain⟨v0,v1⟩:=HV0 (k+1) hlt2;clear HV0;have HTA:=v9h (acO (f:=f) (d:=1) hlt hlt2)
    have HBAD:Hid (yH m.params f 1 k=false→r=false):=fun h=>by
     rw[HR6.out,List.all_eq_false];exact⟨k,by simpa using hlt,by rw[h];simp⟩
    have HN2:Hid (yH m.params f 1 k=true→∀i,i<k+1→yH m.params f 1 i=true):=fun h i hi=>by
     by_cases e:i=k
     ·subst e;exact h
     ·exact HK.out i (by omega)
    obtain⟨vt,hvt⟩:∃vt,vt=f.vars[k+1].typ:=⟨_,rfl⟩
    rw[←hvt] at v1 HTA;clear hvt;have hkI:(k:Int)<(m.params.length:Int):=by omega
    have hidx:(k:Int)+1<(f.vars.length:Int):=by omega
    have hw0:IntKind.i64.wrap (((m.params.length:Int)+1)-(m.params.length:Int))=1:=by rw[show((m.params.length:Int)+1)-(m.params.length:Int)=1 by omega];rfl
    have hw1:IntKind.i64.wrap ((1:Int)+k)=(1:Int)+k:=IntWalk.i64_in _ (by omega);have hw2:(0:Int)≤(1:Int)+k:=by omega
    have hw3:((1:Int)+k).toNat=k+1:=by omega
    have hw4:(1:Int)+k<(f.vars.length:Int):=by omega
    rcases bspU (vt.toList==m.params[k].toList) with q|q
    ·have q':(vt.toList != m.params[k].toList)=true:=by rw[bne,q];rfl
     have HB:=v9h (HBAD.out (by rw[HTA.out];exact q))
     go_upto_region 13 with fail
     refine zm (by kernel_rfl) (by kernel_rfl) ?_
     try simp only[List.append_eq,List.cons_append,List.nil_append]
     repeat(go_big_quiet_step (fail))
     refine wpQuiet_nil ?_;rintro _ ⟨y,rfl⟩
     go_wp2_with fail
     go_ret
     exact⟨by rw[HB.out];rfl,za hbw y.h⟩
    ·have q':(vt.toList != m.params[k].toList)=false:=by rw[bne,q];rfl
     have HN3:=v9h (HN2.out (by rw[HTA.out];exact q))
     go_upto_region 13 with fail
     refine zm (by kernel_rfl) (by kernel_rfl) ?_
     try simp only[List.append_eq,List.cons_append,List.nil_append]
     repeat(go_big_quiet_step (fail))
     refine wpQuiet_nil ?_;rintro _ ⟨y,rfl⟩
     go_wp2_with fail
     go_roundw
     case rel=>exact⟨k+1,by omega,by go_num,HN3,za hbr y.h⟩
     case measure=>simp[intOf];omega
   ·have HB:Hid (r=true):=by
     show r=true;rw[HR6.out,List.all_eq_true];intro i hi;exact HK.out i (by have:=List.mem_range.1 hi;omega)
    go_wp2_with fail
    go_ret
    exact⟨by rw[HB.out];rfl,hbw⟩
 ·rw[hst] at m1
  have HO:Hid (offS m=0):=by show _=_;unfold offS;rw[hst];rfl
  have HXX:Hid (((m.params.length:Nat):Int)=(m.params.length:Int)):=by show _=_;omega
  have HR4:Hid (r=((f.nparams==(m.params.length:Int))&&(decide (m.params.length≤f.vars.length)&&((List.range m.params.length).all (yH m.params f 0))))):=by show r=_;rw[HR3.out,HO.out,hst,←HXX.out];rfl
  clear HR3 HO
  rcases bspU (f.nparams==(m.params.length:Int)) with q1|q1
  ·have q1':(f.nparams != (m.params.length:Int))=true:=by rw[bne,q1];rfl
   have HB:Hid (r=false):=by show r=false;rw[HR4.out,q1];rfl
   go_wp2_with fail
   go_ret
   exact⟨by rw[HB.out];rfl,hb1⟩
  have q1':(f.nparams != (m.params.length:Int))=false:=by rw[bne,q1];rfl
  by_cases hlv:f.vars.length<m.params.length
  ·have HB:Hid (r=false):=by show r=false;rw[HR4.out,decide_eq_false (show ¬m.params.length≤f.vars.length by omega)];simp
   have hlvI:(f.vars.length:Int)<(m.params.length:Int):=by omega
   go_wp2_with fail
   go_ret
   exact⟨by rw[HB.out];rfl,hb1⟩
  have hlvI:¬(f.vars.length:Int)<(m.params.length:Int):=by omega
  have HR5:Hid (r=((List.range m.params.length).all (yH m.params f 0))):=by show r=_;rw[HR4.out,q1,decide_eq_true (by omega)];rfl
  clear HR4
  go_wp2_with fail
  clear f0 f1 f2 f3 f4 f5 fl m0 m1 m2 m3 ml
  go_loopw [8] (fun i wr=>∃k:Nat,k≤m.params.length∧i = .int .i64 k∧Hid (∀i,i<k→yH m.params f 0 i=true)∧Below W1.heap.size W1 wr) (fun i _=>m.params.length-(intOf i).toNat)
  case atStart=>exact⟨0,Nat.zero_le _,rfl,fun i hi=>by omega,v9r⟩
  case round=>
   obtain⟨k,hk,rfl,HK,hbr⟩:=hrel;have hbw:=za hb1 hbr;have bf2:=bf.mono hbr;have bm2:=bm.mono hbr;have f4:=bf2.cell 4 rfl;have fl:=bf2.lt;have m2:=bm2.cell 2 rfl;have ml:=bm2.lt
   by_cases hlt:k<m.params.length
   ·have hlt2:k+0<f.vars.length:=by omega
    obtain⟨bP,oP,rfl,hbP,p0⟩:=(hp.mono hbw).str_at hlt;obtain⟨bV,oV,rfl,hbV,v0,v1⟩:=(hv.mono hbw).fld_at hlt2;have HTA:=v9h (acO (f:=f) (d:=0) hlt hlt2)
    have HBAD:Hid (yH m.params f 0 k=false→r=false):=fun h=>by
     rw[HR5.out,List.all_eq_false];exact⟨k,by simpa using hlt,by rw[h];simp⟩
    have HN2:Hid (yH m.params f 0 k=true→∀i,i<k+1→yH m.params f 0 i=true):=fun h i hi=>by
     by_cases e:i=k
     ·subst e;exact h
     ·exact HK.out i (by omega)
    obtain⟨vt,hvt⟩:∃vt,vt=f.vars[k+0].typ:=⟨_,rfl⟩
    rw[←hvt] at v1 HTA;clear hvt;replace v1:wr.cell? ⟨bV,oV+k*2+1,none⟩=some (.string vt):=v1;have hkI:(k:Int)<(m.params.length:Int):=by omega
    have hidx:(k:Int)+0<(f.vars.length:Int):=by omega
    have hw0:IntKind.i64.wrap ((m.params.length:Int)-(m.params.length:Int))=0:=by rw[show(m.params.length:Int)-(m.params.length:Int)=0 by omega];rfl
    have hw1:IntKind.i64.wrap ((0:Int)+k)=(0:Int)+k:=IntWalk.i64_in _ (by omega);have hw2:(0:Int)≤(0:Int)+k:=by omega
    have hw3:((0:Int)+k).toNat=k+0:=by omega
    have hw4:(0:Int)+k<(f.vars.length:Int):=by omega
    rcases bspU (vt.toList==m.params[k].toList) with q|q
    ·have q':(vt.toList != m.params[k].toList)=true:=by rw[bne,q];rfl
     have HB:=v9h (HBAD.out (by rw[HTA.out];exact q))
     go_upto_region 13 with fail
     refine zm (by kernel_rfl) (by kernel_rfl) ?_
     try simp only[List.append_eq,List.cons_append,List.nil_append]
     repeat(go_big_quiet_step (fail))
     refine wpQuiet_nil ?_;rintro _ ⟨y,rfl⟩
     go_wp2_with fail
     go_ret
     exact⟨by rw[HB.out];rfl,za hbw y.h⟩
    ·have q':(vt.toList != m.params[k].toList)=false:=by rw[bne,q];rfl
     have HN3:=v9h (HN2.out (by rw[HTA.out];exact q))
     go_upto_region 13 with fail
     refine zm (by kernel_rfl) (by kernel_rfl) ?_
     try simp only[List.append_eq,List.cons_append,List.nil_append]
     repeat(go_big_quiet_step (fail))
     refine wpQuiet_nil ?_;rintro _ ⟨y,rfl⟩
     go_wp2_with fail
     go_roundw
     case rel=>exact⟨k+1,by omega,by go_num,HN3,za hbr y.h⟩
     case measure=>simp[intOf];omega
   ·have HB:Hid (r=true):=by
     show r=true;rw[HR5.out,List.all_eq_true];intro i hi;exact HK.out i (by have:=List.mem_range.1 hi;omega)
    go_wp2_with fail
    go_ret
    exact⟨by rw[HB.out];rfl,hbw⟩
def NumR(w0:World)(cs:List Cls)(n:Nat)(e:Ending):Prop:=∃(nm:ByteArray) (m:Sg) (A:Option Addr) (c:Nat),e = .returned (.tuple #[.string nm,.agg #[.string m.name,.bool m.static,.slice A m.params.length c,.string m.result],.bool true])∧(mthL cs)[n]? = some (nm,m)∧Sl Lay.str w0 A m.params∧(∃x∈cs,m∈x.methods)
theorem abL(A:Option Addr)(c:Nat)(cs:List Cls)(n:Nat)(w0 w:World)(hw0:Below w0.heap.size w0 w)(hl:cs.length≤8796093022208)(hsl0:Sl Lay.cls w0 A cs)(hlk:Hid (yp cs))(hn:n<mthN cs)(hn2:n≤1000000) :
  Calls Tryz.prog 128 #[.agg #[.slice A cs.length c],.int .i64 n] w fun e w'=>NumR w0 cs n e∧Below w.heap.size w w':=by
 go_enter Tryz.func128,Tryz.ntmps128
 go_upto_region 1 with fail
 generalize hW:World.alloc _ _=W1 at *
 have hb1:Below w.heap.size w W1:=by rw[←hW];exact(by repeat(first|assumption|exact v9r|apply zc|apply zd|apply zg|apply ze|apply zi))
 have bh:Box W1 w.heap.size [.slice A cs.length c] 29:=by rw[←hW];exact(Box.new _ _ _).alloc _
 have bz:Box W1 (w.heap.size+1) [.string ByteArray.empty,.bool false,.slice none 0 0,.string ByteArray.empty] 36:=by rw[←hW];exact Box.at (by simp)
 clear hW
 go_wp2_with fail
 go_loopw [1,7] (fun v i wr=>∃k q:Nat,k≤cs.length∧i = .int .i64 k∧v = .int .i64 q∧q≤1000000∧Hid (n=mthN (cs.take k)+q)∧Below W1.heap.size W1 wr) (fun _ i _=>cs.length-(intOf i).toNat)
 case atStart=>exact⟨0,n,Nat.zero_le _,rfl,rfl,hn2,by show n=_;simp[mthN],v9r⟩
 case round=>
  obtain⟨k,q,hk,rfl,rfl,hq,HN,hbr⟩:=hrel;have hbw:=za hb1 hbr;have bhr:=bh.mono hbr;have bzr:=bz.mono hbr;have h0:=bhr.cell 0 rfl;have hlh:=bhr.lt
  by_cases hlt:k<cs.length
  ·obtain⟨b0,o,A2,c2,A3,c3,rfl,hc2,hc3,hs2,hs3,HD⟩:=hsl0.clsC hlt
   have hml:=(hlk.out _ (List.getElem_mem hlt)).2.1;have HMT:=v9h (@xc cs k hlt);have HMA:=v9h (@ab3 cs k · hlt);have HMEM:Hid (∀m∈cs[k].methods,∃x∈cs,m∈x.methods):=fun m hm=>⟨_,List.getElem_mem hlt,hm⟩
   obtain⟨e0,d0,d1,d2,d3⟩:=HD _ (za hw0 hbw);generalize cs[k]=x at *
   by_cases hqt:q<x.methods.length
   ·obtain⟨bM,oM,A4,c4,rfl,hbM,m0,m1,m2,m3,hc4,hs4⟩:=hs3.sg_at hqt
    have HL:=v9h (HMA.out q hqt);have HM1:=v9h (HMEM.out _ (List.getElem_mem hqt));have hbM2:=Nat.lt_of_lt_of_le hbM (za hw0 hbw).size;replace m0:=keptC m0 hbM (za hw0 hbw);replace m1:=keptC m1 hbM (za hw0 hbw);replace m2:=keptC m2 hbM (za hw0 hbw);replace m3:=keptC m3 hbM (za hw0 hbw);generalize x.methods[q]=M at *
    have hqI:(q:Int)<(x.methods.length:Int):=by omega
    go_upto_region 6 with fail
    refine zt 11 (by kernel_rfl) (by kernel_rfl) ?_;refine RZ.chunk (f:=0) [0,1,2,3,4,5,6,7,8,9,10] (by kernel_rfl) ?_
    ((simp only[zo,List.filterMap,List.getElem?_toArray,List.getElem?_cons_zero,List.getElem?_cons_succ]);(repeat(go_big_quiet_step (fail)));refine wpQuiet_nil ?_)
    (refine RZ.tail (by kernel_rfl) ?_;(simp only[List.drop_succ_cons,List.drop_zero]))
    have bzz:=bzr.drew;have hbwz:=hbw.drew;clear m0 m1 m2 m3 d0 d1 d2 d3 h0 hlh e0;have s0:=bzz.cell 0 rfl;have s1:=bzz.cell 1 rfl;have s2:=bzz.cell 2 rfl;have s3:=bzz.cell 3 rfl;have sf:=fun i=>bzz.free i
    have sl:=bzz.lt;generalize wr.drew=wz at *
    go_wp2_with fail
    obtain⟨hbz,hgz⟩:=bzz.store4 (.string M.name) (.bool M.static) (.slice A4 M.params.length c4) (.string M.result);have hbw4:=hbwz.grown hgz hbwz.size (fun k hk=>by injection hk with hk;omega);generalize World.setCell _ _ _=wy at *
    have q0:=hbz.cell 0 rfl;have q1:=hbz.cell 1 rfl;have q2:=hbz.cell 2 rfl;have q3:=hbz.cell 3 rfl;refine bodyPost_ret (v:= .tuple #[.string x.name,.agg #[.string M.name,.bool M.static,.slice A4 M.params.length c4,.string M.result],.bool true]) (by simp[results,Tryz.results128,go_sem,q0,q1,q2,q3]) rfl ⟨⟨x.name,M,A4,c4,rfl,by rw[HN.out];exact HL.out,hs4,HM1.out⟩,hbw4⟩
   ·have HN2:Hid (n=mthN (cs.take (k+1))+(q-x.methods.length)):=by show n=_;rw[HMT.out,HN.out];omega
    have hqx:((q-x.methods.length:Nat):Int)=(q:Int)-(x.methods.length:Int):=by omega
    have HQX:=v9h hqx;clear hqx;have hqn:¬(q:Int)<(x.methods.length:Int):=by omega
    go_wp2_with fail
    go_roundw
    case rel=>exact⟨k+1,q-x.methods.length,by omega,by go_num,by rw[HQX.out],by omega,HN2,hbr⟩
    case measure=>simp[intOf];omega
  ·exfalso
   have h1:=HN.out;rw[List.take_of_length_le (by omega)] at h1
   omega
theorem aec(u:Unt)(A0 A1:Option Addr)(c0 c1:Nat)(w:World)(H:Hid (UnR w u A0 A1 c0)) :
  Calls Tryz.prog 127 #[.agg #[.slice A0 u.classes.length c0,.slice A1 u.funcs.length c1,.int .i64 u.main]] w fun e w'=>e = .returned (.int .i64 (uniE u))∧Below w.heap.size w w':=by
 obtain⟨r,HR⟩:∃r,Hid (r=uniE u):=⟨_,v9h rfl⟩
 rw[←HR.out]
 go_enter Tryz.func127,Tryz.ntmps127
 go_upto_region 1 with fail
 generalize hW:World.alloc _ _=W1 at *
 have hb1:Below w.heap.size w W1:=by rw[←hW];exact(by repeat(first|assumption|exact v9r|apply zc|apply zd|apply zg|apply ze|apply zi))
 have bu:Box W1 w.heap.size [.slice A0 u.classes.length c0,.slice A1 u.funcs.length c1,.int .i64 u.main] 32:=by rw[←hW];exact Box.new _ _ _
 clear hW;have u0:=bu.cell 0 rfl;have ul:=bu.lt
 go_wp2_with fail
 refine(ad1 A0 c0 u.classes _ H.out.hl (H.out.hs.mono hb1) (v9h H.out.hlk) (v9h H.out.hok)).mono ?_;rintro e w2 ⟨rfl,hq2⟩;have hb2:=za hb1 hq2;have bu2:=bu.mono hq2;clear u0 ul bu hq2
 by_cases he:(yn u.classes).2≠0
 ·have HB:Hid (r=(yn u.classes).2):=by show r=_;rw[HR.out];unfold uniE;rw[if_pos he]
  have he':((yn u.classes).2 != 0)=true:=by simpa using he
  clear he
  go_wp2_with fail
  go_ret
  exact⟨by rw[HB.out];rfl,hb2⟩
 replace he:(yn u.classes).2=0:=Classical.not_not.1 he;have HR2:Hid (r=kp u):=by show r=_;rw[HR.out,acF he]
 obtain⟨h64,hcls⟩:=qp he;have HCL:=v9h hcls;have he':((yn u.classes).2 != 0)=false:=by simpa using he
 clear he hcls HR;have u1:=bu2.cell 1 rfl;have ul:=bu2.lt
 by_cases hfl:256<u.funcs.length
 ·have HB:Hid (r=3):=by show r=3;rw[HR2.out];unfold kp;rw[if_pos hfl]
  go_wp2_with fail
  go_ret
  exact⟨by rw[HB.out];rfl,hb2⟩
 have u0:=bu2.cell 0 rfl
 go_wp2_with fail
 clear u0 u1 ul he'
 go_loopw [5,6] (fun v5 i wr=>∃k n:Nat,k≤u.classes.length∧i = .int .i64 k∧v5 = .int .i64 n∧n≤16*k∧Hid (n=mthN (u.classes.take k))∧Below w2.heap.size w2 wr) (fun _ i _=>u.classes.length-(intOf i).toNat)
 case atStart=>exact⟨0,0,Nat.zero_le _,rfl,rfl,Nat.zero_le _,v9h rfl,v9r⟩
 case round=>
  obtain⟨k,n,hk,rfl,rfl,hn,HN,hbw⟩:=hrel;have hbw3:=za hb2 hbw;have bu3:=bu2.mono hbw;have u0:=bu3.cell 0 rfl;have ul:=bu3.lt
  by_cases hlt:k<u.classes.length
  ·obtain⟨b0,o,A2,cc2,A3,cc3,hA,hb,d0,d1,d2,d3,hc2,hs2,hc3,hs3⟩:=(H.out.hs.mono hbw3).cls_at hlt
   subst hA;have hm16:=(qQ (HCL.out k hlt)).1.2;have HN2:Hid (n+u.classes[k].methods.length=mthN (u.classes.take (k+1))):=by show _=_;rw[xc hlt,HN.out]
   go_wp2_with fail
   go_roundw
   case rel=>exact⟨k+1,n+u.classes[k].methods.length,by omega,by go_num,by go_num,by omega,HN2,hbw⟩
   case measure=>simp[intOf];omega
  ·have HN2:Hid (mthN u.classes=n):=by show _=n;rw[HN.out,List.take_of_length_le (by omega)]
   clear HN;have u1:=bu3.cell 1 rfl;have u2:=bu3.cell 2 rfl
   by_cases hfn:u.funcs.length≠n
   ·have HB:Hid (r=20):=by show r=20;rw[HR2.out];unfold kp;rw[if_neg hfl,if_pos (by rw[HN2.out];exact hfn)]
    have hq:((n:Int) != (u.funcs.length:Int))=true:=by simp;omega
    have hq2:(n != u.funcs.length)=true:=by simp;omega
    clear hfn
    go_wp2_with fail
    go_ret
    exact⟨by rw[HB.out];rfl,hbw3⟩
   replace hfn:u.funcs.length=n:=Classical.not_not.1 hfn
   have HR3:Hid (r=if u.main<0∨(u.funcs.length:Int)≤u.main then 14 else match u.funcs[u.main.toNat]? with
    |some f=>if xa f then 0 else 14
    |none=>14):=by show r=_;rw[HR2.out];unfold kp;rw[if_neg hfl,if_neg (by rw[HN2.out];omega)];rfl
   have hq:((n:Int) != (u.funcs.length:Int))=false:=by simp;omega
   have hq2:(n != u.funcs.length)=false:=by simp;omega
   have HFN:=v9h hfn;clear hfn HR2 HN2
   by_cases hm0:u.main<0
   ·have HB:Hid (r=14):=by show r=14;rw[HR3.out,if_pos (Or.inl hm0)]
    go_wp2_with fail
    go_ret
    exact⟨by rw[HB.out];rfl,hbw3⟩
   by_cases hm1:(n:Int)≤u.main
   ·have HB:Hid (r=14):=by show r=14;rw[HR3.out,if_pos (Or.inr (by rw[HFN.out];exact hm1))]
    go_wp2_with fail
    go_ret
    exact⟨by rw[HB.out];rfl,hbw3⟩
   obtain⟨j,hj⟩:∃j:Nat,u.main=j:=⟨u.main.toNat,by omega⟩
   rw[hj] at u2 hm0 hm1;have hjl:j<u.funcs.length:=by rw[HFN.out];omega
   have hjI:(j:Int)<(u.funcs.length:Int):=by omega
   have HR4:Hid (r=if qm u.funcs[j] then 0 else 14):=by
    show r=_;rw[HR3.out,if_neg (by rw[hj];omega),hj,Int.toNat_natCast,List.getElem?_eq_getElem hjl,←acG]
   obtain⟨bF,oF,A4,c4,A6,c6,hA,hbF,d0,d1,d2,d3,d4,d5,d6,hc4,hs4,hc6,hs6⟩:=(H.out.hf.mono hbw3).fun_at hjl;subst hA;clear HR3 hj;generalize u.funcs[j]=f at *
   go_upto_region 16 with fail
   generalize hW:World.alloc _ _=W4 at *
   have hbw4:Below w.heap.size w W4:=by rw[←hW];exact zc hbw3
   have bv:Box W4 wr.heap.size [.string f.cls,.string f.name,.bool f.static,.int .i64 f.nparams,.slice A4 f.vars.length c4,.string f.result,.slice A6 f.code.length c6] 42:=by rw[←hW];exact Box.new _ _ _
   clear hW d0 d1 d2 d3 d4 d5 d6 u0 u1 u2 ul hq hq2;have v0:=bv.cell 0 rfl;have v1:=bv.cell 1 rfl;have v2:=bv.cell 2 rfl;have v3:=bv.cell 3 rfl;have v5:=bv.cell 5 rfl;have vl:=bv.lt
   cases h1:(f.cls.toList==[77,97,105,110]) with
   |false=>
    have h1':(f.cls.toList != [77,97,105,110])=true:=by rw[bne,h1];rfl
    have HB:Hid (r=14):=by show r=14;rw[HR4.out];unfold qm;rw[h1];rfl
    go_wp2_with fail
    go_ret
    exact⟨by rw[HB.out];rfl,hbw4⟩
   |true=>
   have h1':(f.cls.toList != [77,97,105,110])=false:=by rw[bne,h1];rfl
   cases h2:(f.name.toList==[109,97,105,110]) with
   |false=>
    have h2':(f.name.toList != [109,97,105,110])=true:=by rw[bne,h2];rfl
    have HB:Hid (r=14):=by show r=14;rw[HR4.out];unfold qm;rw[h1,h2];rfl
    go_wp2_with fail
    go_ret
    exact⟨by rw[HB.out];rfl,hbw4⟩
   |true=>
   have h2':(f.name.toList != [109,97,105,110])=false:=by rw[bne,h2];rfl
   cases h3:f.static with
   |false=>
    rw[h3] at v2;have HB:Hid (r=14):=by show r=14;rw[HR4.out];unfold qm;rw[h1,h2,h3];rfl
    go_wp2_with fail
    go_ret
    exact⟨by rw[HB.out];rfl,hbw4⟩
   |true=>
   rw[h3] at v2
   cases h4:(f.nparams==0) with
   |false=>
    have h4':(f.nparams != 0)=true:=by rw[bne,h4];rfl
    have HB:Hid (r=14):=by show r=14;rw[HR4.out];unfold qm;rw[h1,h2,h3,h4];rfl
    go_wp2_with fail
    go_ret
    exact⟨by rw[HB.out];rfl,hbw4⟩
   |true=>
   have h4':(f.nparams != 0)=false:=by rw[bne,h4];rfl
   cases h5:f.result.toList.isEmpty with
   |false=>
    have h5':(f.result.toList==([]:List UInt8))=false:=by
     cases h:(f.result.toList==([]:List UInt8)) with
     |false=>rfl
     |true=>rw[beq_iff_eq] at h;rw[h] at h5;cases h5
    have h5'':(f.result.toList != ([]:List UInt8))=true:=by rw[bne,h5'];rfl
    have HB:Hid (r=14):=by show r=14;rw[HR4.out];unfold qm;rw[h1,h2,h3,h4,h5];rfl
    go_wp2_with fail
    go_ret
    exact⟨by rw[HB.out];rfl,hbw4⟩
   |true=>
    have h5':(f.result.toList==([]:List UInt8))=true:=by simpa using h5
    have h5'':(f.result.toList != ([]:List UInt8))=false:=by rw[bne,h5'];rfl
    have HB:Hid (r=0):=by show r=0;rw[HR4.out];unfold qm;rw[h1,h2,h3,h4,h5];rfl
    go_wp2_with fail
    go_ret
    exact⟨by rw[HB.out];rfl,hbw4⟩
theorem adj(cs:List Cls)(cl:ByteArray)(m:Sg)(f:Fun)(AH AP AV AC:Option Addr)(cH cP cV cC:Nat)(w:World)(H:Hid (FnR w cs f AH AV AC cH))(hia:Hid (∀x∈f.code,x.args.length≤17592186043904))(hn:Hid (NoKw cs))(hp:Sl Lay.str w AP m.params)(hpl:m.params.length≤1000000)(hop:Hid (∀x∈f.code,x.op=5∨x.op=13)) :
  Calls Tryz.prog 129 #[.agg #[.slice AH cs.length cH],.agg #[.string f.cls,.string f.name,.bool f.static,.int .i64 f.nparams,.slice AV f.vars.length cV,.string f.result,.slice AC f.code.length cC],.string cl,.agg #[.string m.name,.bool m.static,.slice AP m.params.length cP,.string m.result]] w fun e w'=>e = .returned (.tuple #[.int .i64 (fcE cs cl m f).1,.int .i64 (fcE cs cl m f).2])∧Below w.heap.size w w':=by
 obtain⟨r,HR⟩:∃r,Hid (r=fcE cs cl m f):=⟨_,v9h rfl⟩
 rw[←HR.out];have hvl:=H.out.hvl;have hcl:=H.out.hcl
 go_enter Tryz.func129,Tryz.ntmps129
 go_upto_region 1 with fail
 generalize hW:World.alloc _ _=W1 at *
 have hb1:Below w.heap.size w W1:=by rw[←hW];exact(by repeat(first|assumption|exact v9r|apply zc|apply zd|apply zg|apply ze|apply zi))
 have bh:Box W1 w.heap.size [.slice AH cs.length cH] 29:=by rw[←hW];exact((Box.new _ _ _).alloc _).alloc _
 have bf:Box W1 (w.heap.size+1) [.string f.cls,.string f.name,.bool f.static,.int .i64 f.nparams,.slice AV f.vars.length cV,.string f.result,.slice AC f.code.length cC] 42:=by rw[←hW];exact Box.alloc (w:=(w.alloc _).alloc _) (Box.at (w:=w.alloc _) (by simp)) _
 have bm:Box W1 (w.heap.size+2) [.string m.name,.bool m.static,.slice AP m.params.length cP,.string m.result] 36:=by rw[←hW];refine Box.at (w:=(w.alloc _).alloc _) ?_;simp
 clear hW;have m0:=bm.cell 0 rfl;have m1:=bm.cell 1 rfl;have m2:=bm.cell 2 rfl;have m3:=bm.cell 3 rfl;have ml:=bm.lt;have f0:=bf.cell 0 rfl;have f1:=bf.cell 1 rfl;have f2:=bf.cell 2 rfl;have f3:=bf.cell 3 rfl;have f4:=bf.cell 4 rfl;have f5:=bf.cell 5 rfl;have f6:=bf.cell 6 rfl;have fl:=bf.lt
 go_wp2_with fail
 refine(aeb cl m f AP AV AC cP cV cC _ (hp.mono hb1) hpl (H.out.hv.mono hb1) hvl).mono ?_;rintro e w2 ⟨rfl,hq2⟩;have hb2:=za hb1 hq2;have bh2:=bh.mono hq2;have bf2:=bf.mono hq2;clear f0 f1 f2 f3 f4 f5 f6 fl m0 m1 m2 m3 ml bh bf bm hq2
 have HE20:Hid (belB cl m f=false→r=(-1,20)):=fun h=>by
  have:funE cs cl m f=20:=by unfold funE;rw[h];rfl
  rw[HR.out,kM (by rw[this];decide),this]
 have HE3:Hid (belB cl m f=true→(256<f.vars.length∨1024<f.code.length)→r=(-1,3)):=fun h h1=>by
  have:funE cs cl m f=3:=by unfold funE;rw[h,if_neg (by simp),if_pos h1]
  rw[HR.out,kM (by rw[this];decide),this]
 have HEV:Hid (belB cl m f=true→¬(256<f.vars.length∨1024<f.code.length)→frst (vrF cs f) f.vars.length≠0→r=(-1,frst (vrF cs f) f.vars.length)):=fun h h1 h2=>by
  have:funE cs cl m f=frst (vrF cs f) f.vars.length:=by unfold funE;rw[h,if_neg (by simp),if_neg h1,if_pos h2]
  rw[HR.out,kM (by rw[this];exact h2),this]
 have HE1:Hid (belB cl m f=true→¬(256<f.vars.length∨1024<f.code.length)→frst (vrF cs f) f.vars.length=0→f.code.length=0→r=(-1,1)):=fun h h1 h2 h3=>by
  have:funE cs cl m f=1:=by unfold funE;rw[h,if_neg (by simp),if_neg h1,if_neg (by simpa using h2),if_pos h3]
  rw[HR.out,kM (by rw[this];decide),this]
 have HE0:Hid (belB cl m f=true→¬(256<f.vars.length∨1024<f.code.length)→frst (vrF cs f) f.vars.length=0→¬f.code.length=0→funE cs cl m f=0):=fun h h1 h2 h3=>by
  unfold funE;rw[h,if_neg (by simp),if_neg h1,if_neg (by simpa using h2),if_neg h3]
 cases hbe:belB cl m f with
 |false=>
  have HB:=v9h (HE20.out hbe)
  go_wp2_with fail
  go_ret2
  exact⟨by rw[HB.out];rfl,hb2⟩
 |true=>
 have f0:=bf2.cell 0 rfl;have f1:=bf2.cell 1 rfl;have f2:=bf2.cell 2 rfl;have f3:=bf2.cell 3 rfl;have f4:=bf2.cell 4 rfl;have f5:=bf2.cell 5 rfl;have f6:=bf2.cell 6 rfl;have fl:=bf2.lt;have h0:=bh2.cell 0 rfl;have hlh:=bh2.lt
 by_cases g1:256<f.vars.length
 ·have HB:=v9h (HE3.out hbe (Or.inl g1))
  go_wp2_with fail
  go_ret2
  exact⟨by rw[HB.out];rfl,hb2⟩
 by_cases g2:1024<f.code.length
 ·have HB:=v9h (HE3.out hbe (Or.inr g2))
  go_wp2_with fail
  go_ret2
  exact⟨by rw[HB.out];rfl,hb2⟩
 have hng:¬(256<f.vars.length∨1024<f.code.length):=by omega
 replace HEV:=v9h (HEV.out hbe hng);replace HE1:=v9h (HE1.out hbe hng);replace HE0:=v9h (HE0.out hbe hng);clear HE20 HE3 hbe hng;have HNA:=v9h (ad7 cs f AH AV AC cH cV cC w2 (v9h (H.out.mono hb2)));generalize frst (vrF cs f) f.vars.length=ve at *
 go_wp2_with fail
 refine HNA.out.mono ?_;rintro e w3 ⟨rfl,hq3⟩;have hb3:=za hb2 hq3;have bh3:=bh2.mono hq3;have bf3:=bf2.mono hq3;clear f0 f1 f2 f3 f4 f5 f6 fl h0 hlh bh2 bf2 HNA
 by_cases hve:ve=0
 rotate_left
 ·have HB:=v9h (HEV.out hve)
  have t1:(ve != 0)=true:=by simpa using hve
  clear hve
  go_wp2_with fail
  go_ret2
  exact⟨by rw[HB.out];rfl,hb3⟩
 replace HE1:=v9h (HE1.out hve);replace HE0:=v9h (HE0.out hve);have t1:(ve != 0)=false:=by rw[hve];rfl
 clear HEV hve;have f6:=bf3.cell 6 rfl;have fl:=bf3.lt
 by_cases hc0:f.code.length=0
 ·have HB:=v9h (HE1.out hc0)
  have t2:((f.code.length:Int)==0)=true:=by rw[hc0];rfl
  clear hc0
  go_wp2_with fail
  go_ret2
  exact⟨by rw[HB.out];rfl,hb3⟩
 have HFE:=v9h (HE0.out hc0);have t2:((f.code.length:Int)==0)=false:=by rw[beq_eq_false_iff_ne];omega
 clear HE1 HE0 hc0
 go_wp2_with fail
 clear f6 fl t1 t2
 go_loopw [10,11] (fun _ i wr=>∃k:Nat,k≤f.code.length∧i = .int .i64 k∧Hid (frst (insF cs f) k=0)∧Below w3.heap.size w3 wr) (fun _ i _=>f.code.length-(intOf i).toNat)
 case atStart=>exact⟨0,Nat.zero_le _,rfl,v9h rfl,v9r⟩
 case round=>
  obtain⟨k,hk,rfl,HZ,hbr⟩:=hrel;have hbw:=za hb3 hbr;have bh4:=bh3.mono hbr;have bf4:=bf3.mono hbr;have f0:=bf4.cell 0 rfl;have f1:=bf4.cell 1 rfl;have f2:=bf4.cell 2 rfl;have f3:=bf4.cell 3 rfl;have f4:=bf4.cell 4 rfl;have f5:=bf4.cell 5 rfl;have f6:=bf4.cell 6 rfl;have fl:=bf4.lt
  by_cases hlt:k<f.code.length
  ·have HI:=v9h (ad6 cs f AH AV AC cH cV cC k wr (v9h (H.out.mono hbw)) hia hn hlt (v9h (hop.out _ (List.getElem_mem hlt))))
   have HIF:=v9h (abY (cs:=cs) hlt);rw[←HIF.out] at HI;have HHIT:=v9h (fun h=>ae2 HFE.out HZ.out (i:=k) h hlt);generalize hie:insF cs f k=ie at *
   have HIE:=v9h hie;clear hie HIF;have h0:=bh4.cell 0 rfl;have hlh:=bh4.lt
   go_wp2_with fail
   refine HI.out.mono ?_;rintro e w5 ⟨rfl,hq5⟩
   by_cases h:ie=0
   ·have HN:=v9h (yz HZ.out (show insF cs f k=0 by rw[HIE.out,h]))
    have t1:(ie != 0)=false:=by rw[h];rfl
    clear h
    go_wp2_with fail
    go_roundw
    case rel=>exact⟨k+1,by omega,by go_num,HN,za hbr hq5⟩
    case measure=>simp[intOf];omega
   ·have HB:Hid (r=((k:Int),ie)):=by show r=_;rw[HR.out,HHIT.out h]
    have t1:(ie != 0)=true:=by simpa using h
    clear h
    go_wp2_with fail
    go_ret2
    exact⟨by rw[HB.out];rfl,za hbw hq5⟩
  ·have HB:Hid (r=(0,0)):=by
    show r=_;have he:k=f.code.length:=by omega
    rw[HR.out];exact agt HFE.out (by rw[←he];exact HZ.out)
   go_wp2_with fail
   go_ret2
   exact⟨by rw[HB.out];rfl,hbw⟩
theorem aiF{w0:World}{u:Unt}{n:Nat}{nm:ByteArray}{m:Sg}(h:(mthL u.classes)[n]? = some (nm,m))(hl:n<u.funcs.length):fcF u n=fcE u.classes nm m u.funcs[n]:=adR (p:=(nm,m)) hl h
theorem ab9(u:Unt)(A0 A1:Option Addr)(c0 c1:Nat)(w:World)(H:Hid (UnR w u A0 A1 c0))(hia:Hid (∀f∈u.funcs,∀x∈f.code,x.args.length≤17592186043904))(hop:Hid (∀f∈u.funcs,∀x∈f.code,x.op=5∨x.op=13)) :
  Calls Tryz.prog 67 #[.agg #[.slice A0 u.classes.length c0,.slice A1 u.funcs.length c1,.int .i64 u.main]] w fun e w'=>e=tri (chkE u)∧Below w.heap.size w w':=by
 obtain⟨r,HR⟩:∃r,Hid (r=chkE u):=⟨_,v9h rfl⟩
 rw[←HR.out]
 go_enter Tryz.func67,Tryz.ntmps67
 go_upto_region 1 with fail
 generalize hW:World.alloc _ _=W1 at *
 have hb1:Below w.heap.size w W1:=by rw[←hW];exact(by repeat(first|assumption|exact v9r|apply zc|apply zd|apply zg|apply ze|apply zi))
 have bu:Box W1 w.heap.size [.slice A0 u.classes.length c0,.slice A1 u.funcs.length c1,.int .i64 u.main] 32:=by rw[←hW];exact Box.new _ _ _
 clear hW;have u0:=bu.cell 0 rfl;have u1:=bu.cell 1 rfl;have u2:=bu.cell 2 rfl;have ul:=bu.lt
 go_wp2_with fail
 refine(aec u A0 A1 c0 c1 _ (v9h (H.out.mono hb1))).mono ?_;rintro e w2 ⟨rfl,hq2⟩;have hb2:=za hb1 hq2;have bu2:=bu.mono hq2;clear u0 u1 u2 ul bu hq2
 by_cases he:uniE u≠0
 ·have HB:Hid (r=(-1,-1,uniE u)):=by show r=_;rw[HR.out];unfold chkE;rw[if_pos he]
  have he':(uniE u != 0)=true:=by simpa using he
  clear he
  go_wp2_with fail
  go_ret3
  exact⟨by rw[HB.out];rfl,hb2⟩
 replace he:uniE u=0:=Classical.not_not.1 he;have HU:=v9h he;obtain⟨hh0,hf256,hfm,_,_,_⟩:=kI he;have HNK:Hid (NoKw u.classes):=NoKw.of hh0;have HCL:=v9h (qp hh0).2;have HFM:=v9h hfm;have he':(uniE u != 0)=false:=by simpa using he
 clear he hh0 hfm
 go_wp2_with fail
 clear he'
 go_loopw [6,7] (fun v6 i wr=>∃n s:Nat,n≤u.funcs.length∧i = .int .i64 n∧v6 = .int .i64 s∧s≤1024*n∧Hid (s=qw (u.funcs.take n))∧Hid (frst (fun k=>(fcF u k).2) n=0)∧Below w2.heap.size w2 wr) (fun _ i _=>u.funcs.length-(intOf i).toNat)
 case atStart=>exact⟨0,0,Nat.zero_le _,rfl,rfl,by omega,v9h rfl,v9h rfl,v9r⟩
 case round=>
  obtain⟨n,s,hn,rfl,rfl,hs,HS,HF,hbr⟩:=hrel;have hbw:=za hb2 hbr;have bur:=bu2.mono hbr;have u0:=bur.cell 0 rfl;have u1:=bur.cell 1 rfl;have ul:=bur.lt
  by_cases hlt:n<u.funcs.length
  ·have HSN:=v9h (abB hlt)
   have hfok:=v9h (H.out.hfo _ (List.getElem_mem hlt));have HIA:=v9h (hia.out _ (List.getElem_mem hlt));have hnI:(n:Int)<u.funcs.length:=by omega
   have HFC:=v9h (fun nm m h=>aiF (w0:=w) (nm:=nm) (m:=m) h hlt);have hmn:n<mthN u.classes:=by rw[←HFM.out];exact hlt
   go_wp2_with fail
   refine(abL A0 c0 u.classes n w _ hbw H.out.hl H.out.hs (v9h H.out.hlk) hmn (by omega)).mono ?_;rintro e w3 ⟨⟨nm,m,A4,cc4,rfl,hML,hsP,hMM⟩,hq3⟩
   have hp6:m.params.length≤6:=by
    obtain⟨x,hx,hm⟩:=hMM;obtain⟨i,hi,rfl⟩:=List.getElem_of_mem hx;obtain⟨q,hq,rfl⟩:=List.getElem_of_mem hm;exact(jt ((qQ (HCL.out i hi)).2.2.2.2.2.2 q hq)).2.2.1
   replace HFC:=v9h (HFC.out nm m hML);clear hML hMM;have hb3:=za hbw hq3;have bu3:=bur.mono hq3;clear u0 u1 ul bur;obtain⟨bF,oF,A5,cc5,A6,cc6,hA,hbF,d0,d1,d2,d3,d4,d5,d6,hc5,hs5,hc6,hs6⟩:=H.out.hf.fun_at hlt;subst hA;have d6w:=v9h d6
   go_upto_region 9 with fail
   generalize hW:World.alloc _ _=W4 at *
   have h34:Below w3.heap.size w3 W4:=by rw[←hW];exact zc (v9r)
   have bm:Box W4 w3.heap.size [.string m.name,.bool m.static,.slice A4 m.params.length cc4,.string m.result] 36:=by rw[←hW];exact Box.new _ _ _
   clear hW;have hb4:=za hb3 h34;have hbr4:=za (za hbr hq3) h34;have bu4:=bu3.mono h34;clear bu3 hq3 h34
   have HFN:Hid (∀W,Below w.heap.size w W→FnR W u.classes u.funcs[n] A0 A5 A6 c0):=fun W h=>
    ⟨H.out.hl,H.out.hcc,H.out.hs.mono h,H.out.hok,H.out.hlk,hs5.mono h,hfok.out.hvl,hfok.out.hvo,hs6.mono h,hfok.out.hcl,hfok.out.hio,hfok.out.hxr⟩
   have hbF4:=Nat.lt_of_lt_of_le hbF hb4.size;replace d0:=keptC d0 hbF hb4;replace d1:=keptC d1 hbF hb4;replace d2:=keptC d2 hbF hb4;replace d3:=keptC d3 hbF hb4;replace d4:=keptC d4 hbF hb4;replace d5:=keptC d5 hbF hb4;replace d6:=keptC d6 hbF hb4;have HOPN:Hid (∀x∈u.funcs[n].code,x.op=5∨x.op=13):=hop.out _ (List.getElem_mem (by omega));have HCF:=v9h (fun W (h:Below w.heap.size w W)=>adj u.classes nm m u.funcs[n] A0 A4 A5 A6 c0 cc4 cc5 cc6 W (v9h (HFN.out W h)) HIA HNK (hsP.mono h) (by omega) HOPN);rw[←HFC.out] at HCF;have HHIT:=v9h (fun h=>abb HU.out HF.out (k:=n) h hlt);have HPASS:=v9h (fun h=>yz (f:=fun k=>(fcF u k).2) (k:=n) HF.out h)
   have hc1024:(fcF u n).2=0→u.funcs[n].code.length≤1024:=fun h=>by
    rw[HFC.out] at h;unfold fcE at h
    split at h
    ·rename_i h1;exact absurd h h1
    ·rename_i h1;exact(aao (by simpa using h1)).2.2.1
   replace hc1024:=v9h hc1024;have hb6':∀W,Below w.heap.size w W→Sl Lay.ins W A6 u.funcs[n].code:=fun W h=>hs6.mono h
   replace hb6':=v9h hb6'
   have HDC:Hid (∀W,Below w.heap.size w W→bF<W.heap.size∧W.cell? ⟨bF,oF+n*7+6,none⟩=some (.slice A6 u.funcs[n].code.length cc6)):=fun W h=>by
    exact⟨Nat.lt_of_lt_of_le hbF h.size,keptC d6w.out hbF h⟩
   generalize u.funcs[n]=f at *
   have u0:=bu4.cell 0 rfl;have u1:=bu4.cell 1 rfl;have ul:=bu4.lt;have m0:=bm.cell 0 rfl;have m1:=bm.cell 1 rfl;have m2:=bm.cell 2 rfl;have m3:=bm.cell 3 rfl;have ml:=bm.lt;have HC:Hid (∀y:zk W4,Calls Tryz.prog 129 #[.agg #[.slice A0 u.classes.length c0],.agg #[.string f.cls,.string f.name,.bool f.static,.int .i64 f.nparams,.slice A5 f.vars.length cc5,.string f.result,.slice A6 f.code.length cc6],.string nm,.agg #[.string m.name,.bool m.static,.slice A4 m.params.length cc4,.string m.result]] y.W fun e w'=>e = .returned (.tuple #[.int .i64 (fcF u n).1,.int .i64 (fcF u n).2])∧Below y.W.heap.size y.W w'):=fun y=>HCF.out _ (za hb4 y.h)
   generalize(fcF u n).1=fa at *
   obtain⟨fe,HFE⟩:∃fe,Hid (fe=(fcF u n).2):=⟨_,v9h rfl⟩
   rw[←HFE.out] at HC HHIT HPASS hc1024;refine zm (by kernel_rfl) (by kernel_rfl) ?_
   try simp only[List.append_eq,List.cons_append,List.nil_append]
   repeat(go_big_quiet_step (first|(go_at_call 129;with_reducible exact Calls.later (HC.out _))))
   refine wpQuiet_nil ?_;rintro _ ⟨y,rfl⟩;have hb5:=za hb4 y.h;have hbr5:=za hbr4 y.h;have bu5:=bu4.mono y.h;obtain⟨W5,hW5⟩:∃W5,W5=y.W:=⟨_,rfl⟩
   rw[←hW5] at hb5 hbr5 bu5 ⊢;clear hW5 HC HCF u0 u1 ul m0 m1 m2 m3 ml d0 d1 d2 d3 d4 d5 d6 hbF4 bm bu4
   by_cases hfe:fe=0
   rotate_left
   ·have HB:Hid (r=((n:Int),fa,fe)):=by show r=_;rw[HR.out,HHIT.out hfe]
    have t1:(fe != 0)=true:=by simpa using hfe
    clear hfe
    go_wp2_with fail
    go_ret3
    exact⟨by rw[HB.out];rfl,hb5⟩
   have HP2:=v9h (HPASS.out hfe);have hcode:=hc1024.out hfe;have t1:(fe != 0)=false:=by rw[hfe];rfl
   clear HPASS hc1024 HHIT hfe HFE
   go_wp2_with fail
   clear t1
   go_loopw [6,13] (fun v6 i wz=>∃p s1:Nat,p≤f.code.length∧i = .int .i64 p∧v6 = .int .i64 s1∧s1≤1024*n+p∧Hid (s1=s+newN (f.code.take p))∧Below W5.heap.size W5 wz) (fun _ i _=>f.code.length-(intOf i).toNat)
   case atStart=>exact⟨0,s,Nat.zero_le _,rfl,rfl,by omega,v9h rfl,v9r⟩
   case round=>
    obtain⟨p,s1,hp,rfl,rfl,hs1,HS1,hbz⟩:=hrel;have hb6:=za hb5 hbz;have hbr6:=za hbr5 hbz;have bu6:=bu5.mono hbz;have u1:=bu6.cell 1 rfl;have ul:=bu6.lt;obtain⟨eF,dF⟩:=HDC.out _ hb6
    by_cases hpt:p<f.code.length
    ·have HNT:=v9h (acH hpt)
     obtain⟨bC,oC,A7,c7,hA,hbC,k0,_⟩:=(hb6'.out _ hb6).ins_at hpt;subst hA;obtain⟨op,hop⟩:∃op,op=f.code[p].op:=⟨_,rfl⟩
     rw[←hop] at k0 HNT;clear hop
     rcases bspU (op==6) with q6|q6
     ·have HS2:Hid (s1=s+newN (f.code.take (p+1))):=by show s1=_;rw[HNT.out,q6,HS1.out];rfl
      go_wp2_with fail
      go_roundw
      case rel=>exact⟨p+1,s1,by omega,by go_num,rfl,by omega,HS2,hbz⟩
      case measure=>simp[intOf];omega
     ·have HS2:Hid (s1+1=s+newN (f.code.take (p+1))):=by show s1+1=_;rw[HNT.out,q6,HS1.out];rfl
      go_wp2_with fail
      go_roundw
      case rel=>exact⟨p+1,s1+1,by omega,by go_num,by go_num,by omega,HS2,hbz⟩
      case measure=>simp[intOf];omega
    ·have hpe:p=f.code.length:=by omega
     have HS2:Hid (s1=qw (u.funcs.take (n+1))):=by show _=_;rw[HSN.out,HS1.out,HS.out,hpe,List.take_length]
     clear hpe
     go_wp2_with fail
     go_roundw
     case rel=>exact⟨n+1,s1,by omega,by go_num,rfl,by omega,HS2,HP2,hbr6⟩
     case measure=>simp[intOf];omega
  ·have hne:n=u.funcs.length:=by omega
   have HE:Hid (r=if 1024<qw u.funcs then(-1,-1,3) else(0,0,0)):=by
    show r=_;have h1:=HF.out;rw[hne] at h1;rw[HR.out,adS HU.out h1]
   have HS2:Hid (qw u.funcs=s):=by
    show _=_;have h1:=HS.out;rw[List.take_of_length_le (by omega)] at h1;exact h1.symm
   clear hne HS HF
   by_cases h1024:1024<s
   ·have HB:Hid (r=(-1,-1,3)):=by show r=_;rw[HE.out,if_pos (by rw[HS2.out];exact h1024)]
    go_wp2_with fail
    go_ret3
    exact⟨by rw[HB.out];rfl,hbw⟩
   ·have HB:Hid (r=(0,0,0)):=by show r=_;rw[HE.out,if_neg (by rw[HS2.out];exact h1024)]
    go_wp2_with fail
    go_ret3
    exact⟨by rw[HB.out];rfl,hbw⟩
theorem aca(u:Unt)(A0 A1:Option Addr)(c0 c1:Nat)(w:World)(H:Hid (UnR w u A0 A1 c0))(hia:Hid (∀f∈u.funcs,∀x∈f.code,x.args.length≤17592186043904))(hop:Hid (∀f∈u.funcs,∀x∈f.code,x.op=5∨x.op=13)) :
  Calls Tryz.prog 33 #[.agg #[.slice A0 u.classes.length c0,.slice A1 u.funcs.length c1,.int .i64 u.main]] w fun e w'=>e=tri (chkE u)∧Below w.heap.size w w':=by
 obtain⟨r,HR⟩:∃r,Hid (r=chkE u):=⟨_,v9h rfl⟩
 have HC:=v9h (fun W (h:Below w.heap.size w W)=>ab9 u A0 A1 c0 c1 W (v9h (H.out.mono h)) hia hop);rw[←HR.out] at HC ⊢;unfold tri at HC ⊢
 go_enter Tryz.func33,Tryz.ntmps33
 go_upto_region 1 with fail
 generalize hW:World.alloc _ _=W1 at *
 have hb1:Below w.heap.size w W1:=by rw[←hW];exact(by repeat(first|assumption|exact v9r|apply zc|apply zd|apply zg|apply ze|apply zi))
 have bu:Box W1 w.heap.size [.slice A0 u.classes.length c0,.slice A1 u.funcs.length c1,.int .i64 u.main] 32:=by rw[←hW];exact Box.new _ _ _
 clear hW;have u0:=bu.cell 0 rfl;have u1:=bu.cell 1 rfl;have u2:=bu.cell 2 rfl;have ul:=bu.lt
 go_wp2_with fail
 refine(HC.out _ hb1).mono ?_;rintro e w2 ⟨rfl,hq2⟩
 go_wp2_with fail
 go_ret3
 exact⟨rfl,za hb1 hq2⟩
end Go.Proofs.YtmhdambkchlilaaGreatDoor
