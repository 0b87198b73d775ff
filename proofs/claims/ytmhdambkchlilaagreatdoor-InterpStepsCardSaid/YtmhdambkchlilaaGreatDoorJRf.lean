/- Chapter 12: the answer's ranges and leaves. Chapter 12: the answer's leaves: whether control leaves the code or enters a handler. Chapter 12: the answer's declares. -/
import Derived.Test.YtmhdambkchlilaaGreatDoorJRa
import Derived.Test.YtmhdambkchlilaaGreatDoorJUo
import Derived.Test.YtmhdambkchlilaaGreatDoorJHc
import Derived.Test.YtmhdambkchlilaaGreatDoorJGk
import Derived.Test.YtmhdambkchlilaaGreatDoorJGa
namespace Go.Proofs.YtmhdambkchlilaaGreatDoor
open Go.RowKit
set_option linter.unusedVariables false
set_option maxRecDepth 100000
set_option maxHeartbeats 4000000
def rOut(n:Nat)(v:Int):Bool:=decide (v<0)||decide ((n:Int)≤v)
theorem ae8(n:Nat)(v:Int):rOut n v = !varB n v:=by
 unfold rOut varB
 by_cases h0:v<0
 ·rw[decide_eq_true h0,decide_eq_false (show ¬0≤v by omega)];rfl
 ·rw[decide_eq_false h0,decide_eq_true (show 0≤v by omega)]
  by_cases h1:(n:Int)≤v
  ·rw[decide_eq_true h1,decide_eq_false (show ¬v<n by omega)];rfl
  ·rw[decide_eq_false h1,decide_eq_true (show v<n by omega)];rfl
def rB1(n:Nat)(x:Ins):Bool:=zp x.op 100&&(rOut n x.dst&&(!(x.op==9||x.op==10)||x.dst != -1))
def rB2(code:List Ins)(x:Ins):Bool:=zp x.op 103&&(decide (x.jmp<0)||decide ((code.length:Int)≤x.jmp))
theorem aiw(a b:Int):decide (¬a=b)=(a != b):=by
 rw[bne,←yC]
 by_cases h:a=b<;>simp[h]
theorem aaY(n:Nat)(code:List Ins)(x:Ins):jc n code x=(!rB1 n x&&((yx x).all (varB n)&&(!rB2 code x&&hndR code x.hnd))):=by
 unfold jc rB1 rB2;rw[ae8,yC,yC,aiw];simp only[Bool.and_assoc]
theorem adf(f:Fun)(x:Ins)(AV AC AI:Option Addr)(cV cC cI:Nat)(w:World)(hvl:f.vars.length≤8796093022208)(hcl:f.code.length≤8796093022208)(hc:Sl Lay.ins w AC f.code)(hal:x.args.length≤17592186043904)(ha:Sl Lay.int w AI x.args) :
  Calls Tryz.prog 269 #[.agg #[.string f.cls,.string f.name,.bool f.static,.int .i64 f.nparams,.slice AV f.vars.length cV,.string f.result,.slice AC f.code.length cC],.agg #[.int .i64 x.op,.int .i64 x.dst,.int .i64 x.a,.int .i64 x.b,.int .i64 x.n,.string x.cls,.string x.name,.slice AI x.args.length cI,.int .i64 x.jmp,.int .i64 x.hnd]] w fun e w'=>e = .returned (.bool (jc f.vars.length f.code x))∧Below w.heap.size w w':=by
 obtain⟨r,HR⟩:∃r,Hid (r=jc f.vars.length f.code x):=⟨_,v9h rfl⟩
 rw[←HR.out];have HR1:Hid (r=(!rB1 f.vars.length x&&((yx x).all (varB f.vars.length)&&(!rB2 f.code x&&hndR f.code x.hnd)))):=by show r=_;rw[HR.out,aaY]
 clear HR;obtain⟨u1,HU1⟩:∃u,Hid (u=zp x.op 100):=⟨_,v9h rfl⟩
 obtain⟨u2,HU2⟩:∃u,Hid (u=zp x.op 103):=⟨_,v9h rfl⟩
 have H1:Hid (∀W,Calls Tryz.prog 106 #[.int .i64 x.op,.int .u8 100] W fun e w'=>e = .returned (.bool u1)∧Below W.heap.size W w'):=fun W=>zA x.op 100 _ (by rw[(zX x.op).1,HU1.out]) W
 have H2:Hid (∀W,Calls Tryz.prog 106 #[.int .i64 x.op,.int .u8 103] W fun e w'=>e = .returned (.bool u2)∧Below W.heap.size W w'):=fun W=>zA x.op 103 _ (by rw[(zX x.op).2.2.2.2.2.1,HU2.out]) W
 have hul:=agz x
 go_enter Tryz.func269,Tryz.ntmps269
 go_upto_region 1 with fail
 generalize hW:World.alloc _ _=W1 at *
 have hb1:Below w.heap.size w W1:=by rw[←hW];exact(by repeat(first|assumption|exact v9r|apply zc|apply zd|apply zg|apply ze|apply zi))
 have bf:Box W1 w.heap.size [.string f.cls,.string f.name,.bool f.static,.int .i64 f.nparams,.slice AV f.vars.length cV,.string f.result,.slice AC f.code.length cC] 42:=by rw[←hW];exact(by repeat(first|(refine Box.at ?_;(simp;done))|apply Box.drew|apply Box.alloc|assumption))
 have bx:Box W1 (w.heap.size+1) [.int .i64 x.op,.int .i64 x.dst,.int .i64 x.a,.int .i64 x.b,.int .i64 x.n,.string x.cls,.string x.name,.slice AI x.args.length cI,.int .i64 x.jmp,.int .i64 x.hnd] 59:=by rw[←hW];exact(by repeat(first|(refine Box.at ?_;(simp;done))|apply Box.drew|apply Box.alloc|assumption))
 clear hW;have f4:=bf.cell 4 rfl;have fl:=bf.lt;have x0:=bx.cell 0 rfl;have x1:=bx.cell 1 rfl;have xl:=bx.lt
 go_upto_region 2 with fail
 go_cut [6] (fun s wx=>s = .bool (x.op==9||x.op==10)∧W1=wx)
 case first=>
  rcases bspU (x.op==9) with q1|q1
  ·rcases bspU (x.op==10) with q2|q2
   ·go_wp2_with fail
    go_meet
    exact⟨by rw[q1,q2];rfl,rfl⟩
   ·go_wp2_with fail
    go_meet
    exact⟨by rw[q1,q2];rfl,rfl⟩
  ·go_wp2_with fail
   go_meet
   exact⟨by rw[q1];rfl,rfl⟩
 case rest=>
 obtain⟨rfl,rfl⟩:=hcut;obtain⟨cl,HCL⟩:∃cl,Hid (cl=(x.op==9||x.op==10)):=⟨_,v9h rfl⟩
 rw[←HCL.out]
 go_upto_region 3 with fail
 go_cut [42] (fun s wx=>s = .bool (rB1 f.vars.length x)∧Below W1.heap.size W1 wx)
 case first=>
  cases u1 with
  |false=>
   have HB:Hid (rB1 f.vars.length x=false):=by show _=_;unfold rB1 rOut;rw[←HU1.out,←HCL.out];simp[]
   refine zr ?_
   try simp only[List.append_eq,List.cons_append,List.nil_append]
   repeat(go_big_quiet_step (first|(go_at_call 106;with_reducible exact Calls.later (H1.out _))))
   refine wpQuiet_nil ?_;rintro _ ⟨y,rfl⟩
   go_wp2_with fail
   go_meet
   exact⟨by rw[HB.out],y.h⟩
  |true=>
   by_cases d0:x.dst<0
   ·cases cl with
    |false=>
     have HB:Hid (rB1 f.vars.length x=true):=by show _=_;unfold rB1 rOut;rw[←HU1.out,←HCL.out];simp[d0]
     refine zr ?_
     try simp only[List.append_eq,List.cons_append,List.nil_append]
     repeat(go_big_quiet_step (first|(go_at_call 106;with_reducible exact Calls.later (H1.out _))))
     refine wpQuiet_nil ?_;rintro _ ⟨y,rfl⟩
     go_wp2_with fail
     go_meet
     exact⟨by rw[HB.out],y.h⟩
    |true=>
     rcases bspU (x.dst != -1) with d2|d2
     ·have HB:Hid (rB1 f.vars.length x=false):=by show _=_;unfold rB1 rOut;rw[←HU1.out,←HCL.out];simp[d2]
      refine zr ?_
      try simp only[List.append_eq,List.cons_append,List.nil_append]
      repeat(go_big_quiet_step (first|(go_at_call 106;with_reducible exact Calls.later (H1.out _))))
      refine wpQuiet_nil ?_;rintro _ ⟨y,rfl⟩
      go_wp2_with fail
      go_meet
      exact⟨by rw[HB.out],y.h⟩
     ·have HB:Hid (rB1 f.vars.length x=true):=by show _=_;unfold rB1 rOut;rw[←HU1.out,←HCL.out];simp[d0,d2]
      refine zr ?_
      try simp only[List.append_eq,List.cons_append,List.nil_append]
      repeat(go_big_quiet_step (first|(go_at_call 106;with_reducible exact Calls.later (H1.out _))))
      refine wpQuiet_nil ?_;rintro _ ⟨y,rfl⟩
      go_wp2_with fail
      go_meet
      exact⟨by rw[HB.out],y.h⟩
   ·by_cases d1:(f.vars.length:Int)≤x.dst
    ·cases cl with
     |false=>
      have HB:Hid (rB1 f.vars.length x=true):=by show _=_;unfold rB1 rOut;rw[←HU1.out,←HCL.out];simp[d1]
      refine zr ?_
      try simp only[List.append_eq,List.cons_append,List.nil_append]
      repeat(go_big_quiet_step (first|(go_at_call 106;with_reducible exact Calls.later (H1.out _))))
      refine wpQuiet_nil ?_;rintro _ ⟨y,rfl⟩
      go_wp2_with fail
      go_meet
      exact⟨by rw[HB.out],y.h⟩
     |true=>
      rcases bspU (x.dst != -1) with d2|d2
      ·have HB:Hid (rB1 f.vars.length x=false):=by show _=_;unfold rB1 rOut;rw[←HU1.out,←HCL.out];simp[d2]
       refine zr ?_
       try simp only[List.append_eq,List.cons_append,List.nil_append]
       repeat(go_big_quiet_step (first|(go_at_call 106;with_reducible exact Calls.later (H1.out _))))
       refine wpQuiet_nil ?_;rintro _ ⟨y,rfl⟩
       go_wp2_with fail
       go_meet
       exact⟨by rw[HB.out],y.h⟩
      ·have HB:Hid (rB1 f.vars.length x=true):=by show _=_;unfold rB1 rOut;rw[←HU1.out,←HCL.out];simp[d1,d2]
       refine zr ?_
       try simp only[List.append_eq,List.cons_append,List.nil_append]
       repeat(go_big_quiet_step (first|(go_at_call 106;with_reducible exact Calls.later (H1.out _))))
       refine wpQuiet_nil ?_;rintro _ ⟨y,rfl⟩
       go_wp2_with fail
       go_meet
       exact⟨by rw[HB.out],y.h⟩
    ·have HB:Hid (rB1 f.vars.length x=false):=by show _=_;unfold rB1 rOut;rw[←HU1.out,←HCL.out];simp[d0,d1]
     refine zr ?_
     try simp only[List.append_eq,List.cons_append,List.nil_append]
     repeat(go_big_quiet_step (first|(go_at_call 106;with_reducible exact Calls.later (H1.out _))))
     refine wpQuiet_nil ?_;rintro _ ⟨y,rfl⟩
     go_wp2_with fail
     go_meet
     exact⟨by rw[HB.out],y.h⟩
 case rest=>
 obtain⟨rfl,hq2⟩:=hcut;have hb2:=za hb1 hq2;have bf2:=bf.mono hq2;have bx2:=bx.mono hq2;clear f4 fl x0 x1 xl bf bx H1 HU1 HCL
 cases hB1:rB1 f.vars.length x with
 |true=>
  have HB:Hid (r=false):=by show r=false;rw[HR1.out,hB1];rfl
  go_wp2_with fail
  go_ret
  exact⟨by rw[HB.out];rfl,hb2⟩
 |false=>
 have HR2:Hid (r=((yx x).all (varB f.vars.length)&&(!rB2 f.code x&&hndR f.code x.hnd))):=by show r=_;rw[HR1.out,hB1];rfl
 have HUS:=v9h (fun W (h:Below w.heap.size w W)=>aeK x AI cI W hal (ha.mono h));clear HR1 hB1;generalize yx x=N at *
 have x0:=bx2.cell 0 rfl;have x1:=bx2.cell 1 rfl;have x2:=bx2.cell 2 rfl;have x3:=bx2.cell 3 rfl;have x4:=bx2.cell 4 rfl;have x5:=bx2.cell 5 rfl;have x6:=bx2.cell 6 rfl;have x7:=bx2.cell 7 rfl;have x8:=bx2.cell 8 rfl;have x9:=bx2.cell 9 rfl;have xl:=bx2.lt
 go_wp2_with fail
 refine(HUS.out _ hb2).mono ?_;rintro e w3 ⟨⟨v3,rfl,ho3⟩,hq3⟩;have hb3:=za hb2 hq3;have bf3:=bf2.mono hq3;have bx3:=bx2.mono hq3;obtain⟨AN,cN,rfl,hcN,hsN⟩:=jr.of_own ho3;clear x0 x1 x2 x3 x4 x5 x6 x7 x8 x9 xl bf2 bx2 HUS ho3
 go_wp2_with fail
 go_loop [8] (fun i=>∃k:Nat,k≤N.length∧i = .int .i64 k∧Hid (∀i (hi:i<k) (h:i<N.length),varB f.vars.length N[i]=true)) (fun i=>N.length-(intOf i).toNat)
 case atStart=>exact⟨0,Nat.zero_le _,rfl,fun i hi=>by omega⟩
 case round=>
  obtain⟨k,hk,rfl,HN⟩:=hrel
  by_cases hlt:k<N.length
  ·obtain⟨bN,oN,rfl,hbN,n0⟩:=hsN.int_at hlt
   have HVO:=v9h (ae8 f.vars.length N[k])
   have HBAD:Hid (varB f.vars.length N[k]=false→r=false):=fun h=>by
    rw[HR2.out];have:N.all (varB f.vars.length)=false:=by rw[List.all_eq_false];exact⟨_,List.getElem_mem hlt,by rw[h];simp⟩
    rw[this];rfl
   by_cases g0:N[k]<0
   ·have HB:Hid (r=false):=HBAD.out (by have:=HVO.out;unfold rOut at this;rw[decide_eq_true g0] at this;simpa using this)
    go_wp2_with fail
    go_ret
    exact⟨by rw[HB.out];rfl,hb3⟩
   by_cases g1:(f.vars.length:Int)≤N[k]
   ·have HB:Hid (r=false):=HBAD.out (by have:=HVO.out;unfold rOut at this;rw[decide_eq_true g1] at this;simpa using this)
    go_wp2_with fail
    go_ret
    exact⟨by rw[HB.out];rfl,hb3⟩
   have HN2:Hid (∀i (hi:i<k+1) (h:i<N.length),varB f.vars.length N[i]=true):=fun i hi h=>by
    by_cases e:i=k
    ·subst e;have:=HVO.out;unfold rOut at this;rw[decide_eq_false g0,decide_eq_false g1] at this;simpa using this
    ·exact HN.out i (by omega) h
   go_wp2_with fail
   go_round
   case rel=>exact⟨k+1,by omega,by go_num,HN2⟩
   case measure=>simp[intOf];omega
  ·have HR3:Hid (r=(!rB2 f.code x&&hndR f.code x.hnd)):=by
    show r=_
    have:N.all (varB f.vars.length)=true:=by
     rw[List.all_eq_true];intro z hz;obtain⟨i,hi,rfl⟩:=List.getElem_of_mem hz;exact HN.out i (by omega) hi
    rw[HR2.out,this];rfl
   clear HR2 HN;have f6:=bf3.cell 6 rfl;have fl:=bf3.lt;have x0:=bx3.cell 0 rfl;have x8:=bx3.cell 8 rfl;have xl:=bx3.lt
   go_upto_region 11 with fail
   go_cut [79] (fun s wx=>s = .bool (rB2 f.code x)∧Below w3.heap.size w3 wx)
   case first=>
    cases u2 with
    |false=>
     have HB:Hid (rB2 f.code x=false):=by show _=_;unfold rB2;rw[←HU2.out];simp[]
     refine zr ?_
     try simp only[List.append_eq,List.cons_append,List.nil_append]
     repeat(go_big_quiet_step (first|(go_at_call 106;with_reducible exact Calls.later (H2.out _))))
     refine wpQuiet_nil ?_;rintro _ ⟨y,rfl⟩
     go_wp2_with fail
     go_meet
     exact⟨by rw[HB.out],y.h⟩
    |true=>
     by_cases d0:x.jmp<0
     ·have HB:Hid (rB2 f.code x=true):=by show _=_;unfold rB2;rw[←HU2.out];simp[d0]
      refine zr ?_
      try simp only[List.append_eq,List.cons_append,List.nil_append]
      repeat(go_big_quiet_step (first|(go_at_call 106;with_reducible exact Calls.later (H2.out _))))
      refine wpQuiet_nil ?_;rintro _ ⟨y,rfl⟩
      go_wp2_with fail
      go_meet
      exact⟨by rw[HB.out],y.h⟩
     ·by_cases d1:(f.code.length:Int)≤x.jmp
      ·have HB:Hid (rB2 f.code x=true):=by show _=_;unfold rB2;rw[←HU2.out];simp[d1]
       refine zr ?_
       try simp only[List.append_eq,List.cons_append,List.nil_append]
       repeat(go_big_quiet_step (first|(go_at_call 106;with_reducible exact Calls.later (H2.out _))))
       refine wpQuiet_nil ?_;rintro _ ⟨y,rfl⟩
       go_wp2_with fail
       go_meet
       exact⟨by rw[HB.out],y.h⟩
      ·have HB:Hid (rB2 f.code x=false):=by show _=_;unfold rB2;rw[←HU2.out];simp[d0,d1]
       refine zr ?_
       try simp only[List.append_eq,List.cons_append,List.nil_append]
       repeat(go_big_quiet_step (first|(go_at_call 106;with_reducible exact Calls.later (H2.out _))))
       refine wpQuiet_nil ?_;rintro _ ⟨y,rfl⟩
       go_wp2_with fail
       go_meet
       exact⟨by rw[HB.out],y.h⟩
   case rest=>
   obtain⟨rfl,hq4⟩:=hcut;have hb4:=za hb3 hq4;have bf4:=bf3.mono hq4;have bx4:=bx3.mono hq4;clear f6 fl x0 x8 xl bf3 bx3 H2 HU2
   cases hB2:rB2 f.code x with
   |true=>
    have HB:Hid (r=false):=by show r=false;rw[HR3.out,hB2];rfl
    go_wp2_with fail
    go_ret
    exact⟨by rw[HB.out];rfl,hb4⟩
   |false=>
   have HR4:Hid (r=hndR f.code x.hnd):=by show r=_;rw[HR3.out,hB2];rfl
   clear HR3 hB2;have f6:=bf4.cell 6 rfl;have fl:=bf4.lt;have x9:=bx4.cell 9 rfl;have xl:=bx4.lt
   rcases bspU (x.hnd == -1) with z0|z0
   rotate_left
   ·have HB:Hid (r=true):=by show r=true;rw[HR4.out];unfold hndR;rw[yC,z0];rfl
    go_wp2_with fail
    go_ret
    exact⟨by rw[HB.out];rfl,hb4⟩
   have HR5:Hid (r=(decide (0≤x.hnd)&&(decide (x.hnd<(f.code.length:Int))&&zL f.code x.hnd))):=by show r=_;rw[HR4.out];unfold hndR;rw[yC,z0];rfl
   by_cases z1:0≤x.hnd
   rotate_left
   ·have HB:Hid (r=false):=by show r=false;rw[HR5.out,decide_eq_false z1];rfl
    go_wp2_with fail
    go_ret
    exact⟨by rw[HB.out];rfl,hb4⟩
   by_cases z2:x.hnd<(f.code.length:Int)
   rotate_left
   ·have HB:Hid (r=false):=by show r=false;rw[HR5.out,decide_eq_false z2];simp
    go_wp2_with fail
    go_ret
    exact⟨by rw[HB.out];rfl,hb4⟩
   obtain⟨h,hh⟩:∃h:Nat,x.hnd=h:=⟨x.hnd.toNat,by omega⟩
   have hhl:h<f.code.length:=by omega
   have HR6:Hid (r=(f.code[h].op==15)):=by show r=_;rw[HR5.out,decide_eq_true z1,decide_eq_true z2,hh,qJ hhl,yC];rfl
   rw[hh] at x9 z0 z1 z2;clear HR4 HR5 hh;obtain⟨bC,oC,A7,c7,rfl,hbC,k0,k1,k2,k3,k4,k5,k6,k7,k8,k9,hc7,hs7⟩:=(hc.mono hb4).ins_at hhl;generalize f.code[h].op=op at *
   generalize hz3:(op==15)=z3 at *
   go_wp2_with fail
   go_ret
   exact⟨by rw[HR6.out];rfl,hb4⟩
theorem Sl.insC{w:World}{A:Option Addr}{l:List Ins}(h:Sl Lay.ins w A l)(h0:0<l.length):∃b o:Nat,A=some ⟨b,o,none⟩∧∀W,Below w.heap.size w W→b<W.heap.size∧∀i (hi:i<l.length),W.cell? ⟨b,o+i*10,none⟩=some (.int .i64 l[i].op):=by
 obtain⟨b,o,A7,c7,rfl,_⟩:=h.ins_at h0;refine⟨b,o,rfl,fun W hW=>?_⟩;have h2:=h.mono hW;obtain⟨b1,o1,A8,c8,e,hb,_⟩:=h2.ins_at h0;simp only[Option.some.injEq,Addr.mk.injEq] at e;obtain⟨rfl,rfl,_⟩:=e;refine⟨hb,fun i hi=>?_⟩;obtain⟨b2,o2,A9,c9,e,hb2,d0,_⟩:=h2.ins_at hi;simp only[Option.some.injEq,Addr.mk.injEq] at e;obtain⟨rfl,rfl,_⟩:=e;exact d0
def endB(x:Ins):Bool:=x.op==12||(x.op==13||x.op==14)
def lvA(code:List Ins)(i:Nat)(x:Ins):Bool:= !endB x&&(decide ((i:Int)+1=code.length)||zL code ((i:Int)+1))
theorem aeM(code:List Ins)(i:Nat)(x:Ins):jN code i x=(lvA code i x||(zp x.op 103&&zL code x.jmp||decide (i=0)&&(x.op==15))):=by
 unfold jN lvA endB;rw[yC x.op 12,yC x.op 13,yC x.op 14,yC x.op 15]
theorem adg(f:Fun)(AV AC:Option Addr)(cV cC i:Nat)(w:World)(hcl:f.code.length≤8796093022208)(hc:Sl Lay.ins w AC f.code)(hi:i<f.code.length)(hg:Hid (zp f.code[i].op 103=true→0≤f.code[i].jmp∧f.code[i].jmp<f.code.length)) :
  Calls Tryz.prog 270 #[.agg #[.string f.cls,.string f.name,.bool f.static,.int .i64 f.nparams,.slice AV f.vars.length cV,.string f.result,.slice AC f.code.length cC],.int .i64 i] w fun e w'=>e = .returned (.bool (jN f.code i f.code[i]))∧Below w.heap.size w w':=by
 obtain⟨r,HR⟩:∃r,Hid (r=jN f.code i f.code[i]):=⟨_,v9h rfl⟩
 rw[←HR.out];have HR1:Hid (r=(lvA f.code i f.code[i]||(zp f.code[i].op 103&&zL f.code f.code[i].jmp||decide (i=0)&&(f.code[i].op==15)))):=by show r=_;rw[HR.out,aeM]
 clear HR;obtain⟨u2,HU2⟩:∃u,Hid (u=zp f.code[i].op 103):=⟨_,v9h rfl⟩
 have H2:Hid (∀W,Calls Tryz.prog 106 #[.int .i64 f.code[i].op,.int .u8 103] W fun e w'=>e = .returned (.bool u2)∧Below W.heap.size W w'):=fun W=>zA f.code[i].op 103 _ (by rw[(zX f.code[i].op).2.2.2.2.2.1,HU2.out]) W
 rw[←HU2.out] at HR1 hg;clear HU2;obtain⟨bC,oC,rfl,HCC⟩:=hc.insC (by omega);obtain⟨b1,o1,A7,c7,e,hbC,k0,k1,k2,k3,k4,k5,k6,k7,k8,k9,hc7,hs7⟩:=hc.ins_at hi;simp only[Option.some.injEq,Addr.mk.injEq] at e;obtain⟨rfl,rfl,_⟩:=e;replace HCC:=v9h HCC;have hiI:(i:Int)<f.code.length:=by omega
 obtain⟨x,hx⟩:∃x,x=f.code[i]:=⟨_,rfl⟩
 rw[←hx] at k0 k1 k2 k3 k4 k5 k6 k7 k8 k9 HR1 hg H2 hs7 hc7;clear hx
 go_enter Tryz.func270,Tryz.ntmps270
 go_upto_region 1 with fail
 generalize hW:World.alloc _ _=W1 at *
 have hb1:Below w.heap.size w W1:=by rw[←hW];exact(by repeat(first|assumption|exact v9r|apply zc|apply zd|apply zg|apply ze|apply zi))
 have bf1:Box W1 w.heap.size [.string f.cls,.string f.name,.bool f.static,.int .i64 f.nparams,.slice AV f.vars.length cV,.string f.result,.slice (some ⟨bC,oC,none⟩) f.code.length cC] 42:=by rw[←hW];exact(by repeat(first|(refine Box.at ?_;(simp;done))|apply Box.drew|apply Box.alloc|assumption))
 have hz1:W1.heap.size=w.heap.size+1:=by rw[←hW];simp
 clear hW;have f6:=bf1.cell 6 rfl;have fl:=bf1.lt;replace k0:=keptC k0 hbC hb1;replace k1:=keptC k1 hbC hb1;replace k2:=keptC k2 hbC hb1;replace k3:=keptC k3 hbC hb1;replace k4:=keptC k4 hbC hb1;replace k5:=keptC k5 hbC hb1;replace k6:=keptC k6 hbC hb1;replace k7:=keptC k7 hbC hb1;replace k8:=keptC k8 hbC hb1;replace k9:=keptC k9 hbC hb1;have hbC1:=Nat.lt_of_lt_of_le hbC hb1.size
 go_upto_region 2 with fail
 generalize hW:World.alloc _ _=W2 at *
 have hb2:Below w.heap.size w W2:=by rw[←hW];exact zc hb1
 have bf2:Box W2 w.heap.size [.string f.cls,.string f.name,.bool f.static,.int .i64 f.nparams,.slice AV f.vars.length cV,.string f.result,.slice (some ⟨bC,oC,none⟩) f.code.length cC] 42:=by rw[←hW];exact bf1.alloc _
 have bx2:Box W2 (w.heap.size+1) [.int .i64 x.op,.int .i64 x.dst,.int .i64 x.a,.int .i64 x.b,.int .i64 x.n,.string x.cls,.string x.name,.slice A7 x.args.length c7,.int .i64 x.jmp,.int .i64 x.hnd] 59:=by rw[←hW];exact Box.at hz1
 clear hW f6 fl k0 k1 k2 k3 k4 k5 k6 k7 k8 k9 bf1 hbC1;have f6:=bf2.cell 6 rfl;have fl:=bf2.lt;have x0:=bx2.cell 0 rfl;have x8:=bx2.cell 8 rfl;have xl:=bx2.lt;obtain⟨hbC2,HC2'⟩:=HCC.out _ hb2;have HC2:=v9h HC2';clear HC2'
 go_cut [6] (fun s wx=>s = .bool (endB x)∧W2=wx)
 case first=>
  rcases bspU (x.op==12) with q1|q1
  ·rcases bspU (x.op==13) with q2|q2
   ·rcases bspU (x.op==14) with q3|q3
    ·go_wp2_with fail
     go_meet
     exact⟨by unfold endB;rw[q1,q2,q3];rfl,rfl⟩
    ·go_wp2_with fail
     go_meet
     exact⟨by unfold endB;rw[q1,q2,q3];rfl,rfl⟩
   ·go_wp2_with fail
    go_meet
    exact⟨by unfold endB;rw[q1,q2];rfl,rfl⟩
  ·go_wp2_with fail
   go_meet
   exact⟨by unfold endB;rw[q1];rfl,rfl⟩
 case rest=>
 obtain⟨rfl,rfl⟩:=hcut;obtain⟨en,HEN⟩:∃en,Hid (en=endB x):=⟨_,v9h rfl⟩
 rw[←HEN.out]
 go_upto_region 3 with fail
 go_cut [44] (fun s wx=>s = .bool (lvA f.code i x)∧W2=wx)
 case first=>
  cases en with
  |true=>
   have HB:Hid (lvA f.code i x=false):=by show _=_;unfold lvA;rw[←HEN.out];rfl
   go_wp2_with fail
   go_meet
   exact⟨by rw[HB.out],rfl⟩
  |false=>
  by_cases hl:i+1=f.code.length
  ·have HB:Hid (lvA f.code i x=true):=by show _=_;unfold lvA;rw[←HEN.out,decide_eq_true (by omega)];rfl
   have t1:(((i:Int)+1)==(f.code.length:Int))=true:=by simp;omega
   have t2:((((i+1:Nat):Int))==(f.code.length:Int))=true:=by simp;omega
   clear hl
   go_wp2_with fail
   go_meet
   exact⟨by rw[HB.out],rfl⟩
  ·have hl2:i+1<f.code.length:=by omega
   have hl3:(i:Int)+1<f.code.length:=by omega
   have HB:Hid (lvA f.code i x=(f.code[i+1].op==15)):=by
    show _=_;unfold lvA;rw[←HEN.out,decide_eq_false (by omega),show(i:Int)+1=((i+1:Nat):Int) by omega,qJ hl2,yC]
    rfl
   have t1:(((i:Int)+1)==(f.code.length:Int))=false:=by rw[beq_eq_false_iff_ne];omega
   have t2:((((i+1:Nat):Int))==(f.code.length:Int))=false:=by rw[beq_eq_false_iff_ne];omega
   have kk:=HC2.out (i+1) hl2;obtain⟨op,hop⟩:∃op,op=f.code[i+1].op:=⟨_,rfl⟩
   rw[←hop] at kk HB;clear hop;generalize hz3:(op==15)=z3 at *
   clear hl
   go_wp2_with fail
   go_meet
   exact⟨by rw[HB.out],rfl⟩
 case rest=>
 obtain⟨rfl,rfl⟩:=hcut;clear HEN
 cases hlv:lvA f.code i x with
 |true=>
  have HB:Hid (r=true):=by show r=true;rw[HR1.out,hlv];rfl
  go_wp2_with fail
  go_ret
  exact⟨by rw[HB.out];rfl,hb2⟩
 |false=>
 have HR2:Hid (r=(u2&&zL f.code x.jmp||decide (i=0)&&(x.op==15))):=by show r=_;rw[HR1.out,hlv];rfl
 clear HR1 hlv
 go_upto_region 5 with fail
 cases u2 with
 |false=>
  by_cases z0:i=0
  ·rcases bspU (x.op==15) with z1|z1
   ·have HB:Hid (r=false):=by show r=_;rw[HR2.out];simp[z0,z1]
    have t0:((i:Int)==0)=true:=by rw[z0];rfl
    clear z0;refine zr ?_
    try simp only[List.append_eq,List.cons_append,List.nil_append]
    repeat(go_big_quiet_step (first|(go_at_call 106;with_reducible exact Calls.later (H2.out _))))
    refine wpQuiet_nil ?_;rintro _ ⟨y,rfl⟩
    go_wp2_with fail
    go_ret
    exact⟨by rw[HB.out];rfl,za hb2 y.h⟩
   ·have HB:Hid (r=true):=by show r=_;rw[HR2.out];simp[z0,z1]
    have t0:((i:Int)==0)=true:=by rw[z0];rfl
    clear z0;refine zr ?_
    try simp only[List.append_eq,List.cons_append,List.nil_append]
    repeat(go_big_quiet_step (first|(go_at_call 106;with_reducible exact Calls.later (H2.out _))))
    refine wpQuiet_nil ?_;rintro _ ⟨y,rfl⟩
    go_wp2_with fail
    go_ret
    exact⟨by rw[HB.out];rfl,za hb2 y.h⟩
  ·have HB:Hid (r=false):=by show r=_;rw[HR2.out];simp[z0]
   have t0:((i:Int)==0)=false:=by rw[beq_eq_false_iff_ne];omega
   clear z0;refine zr ?_
   try simp only[List.append_eq,List.cons_append,List.nil_append]
   repeat(go_big_quiet_step (first|(go_at_call 106;with_reducible exact Calls.later (H2.out _))))
   refine wpQuiet_nil ?_;rintro _ ⟨y,rfl⟩
   go_wp2_with fail
   go_ret
   exact⟨by rw[HB.out];rfl,za hb2 y.h⟩
 |true=>
  obtain⟨g0,g1⟩:=hg.out rfl;obtain⟨j,hj⟩:∃j:Nat,x.jmp=j:=⟨x.jmp.toNat,by omega⟩
  have hjl:j<f.code.length:=by omega
  have HIC:Hid (zL f.code x.jmp=(f.code[j].op==15)):=by show _=_;rw[hj,qJ hjl,yC]
  have kk:=HC2.out j hjl;rw[hj] at x8 g0 g1;clear hj hg;obtain⟨op,hop⟩:∃op,op=f.code[j].op:=⟨_,rfl⟩
  rw[←hop] at kk HIC;clear hop
  rcases bspU (op==15) with z3|z3
  ·rw[z3] at HIC
   by_cases z0:i=0
   ·rcases bspU (x.op==15) with z1|z1
    ·have HB:Hid (r=false):=by show r=_;rw[HR2.out];simp[HIC.out,z0,z1]
     have t0:((i:Int)==0)=true:=by rw[z0];rfl
     clear z0;refine zr ?_
     try simp only[List.append_eq,List.cons_append,List.nil_append]
     repeat(go_big_quiet_step (first|(go_at_call 106;with_reducible exact Calls.later (H2.out _))))
     refine wpQuiet_nil ?_;rintro _ ⟨y,rfl⟩
     go_wp2_with fail
     go_ret
     exact⟨by rw[HB.out];rfl,za hb2 y.h⟩
    ·have HB:Hid (r=true):=by show r=_;rw[HR2.out];simp[HIC.out,z0,z1]
     have t0:((i:Int)==0)=true:=by rw[z0];rfl
     clear z0;refine zr ?_
     try simp only[List.append_eq,List.cons_append,List.nil_append]
     repeat(go_big_quiet_step (first|(go_at_call 106;with_reducible exact Calls.later (H2.out _))))
     refine wpQuiet_nil ?_;rintro _ ⟨y,rfl⟩
     go_wp2_with fail
     go_ret
     exact⟨by rw[HB.out];rfl,za hb2 y.h⟩
   ·have HB:Hid (r=false):=by show r=_;rw[HR2.out];simp[HIC.out,z0]
    have t0:((i:Int)==0)=false:=by rw[beq_eq_false_iff_ne];omega
    clear z0;refine zr ?_
    try simp only[List.append_eq,List.cons_append,List.nil_append]
    repeat(go_big_quiet_step (first|(go_at_call 106;with_reducible exact Calls.later (H2.out _))))
    refine wpQuiet_nil ?_;rintro _ ⟨y,rfl⟩
    go_wp2_with fail
    go_ret
    exact⟨by rw[HB.out];rfl,za hb2 y.h⟩
  ·rw[z3] at HIC
   have HB:Hid (r=true):=by show r=_;rw[HR2.out];simp[HIC.out]
   refine zr ?_
   try simp only[List.append_eq,List.cons_append,List.nil_append]
   repeat(go_big_quiet_step (first|(go_at_call 106;with_reducible exact Calls.later (H2.out _))))
   refine wpQuiet_nil ?_;rintro _ ⟨y,rfl⟩
   go_wp2_with fail
   go_ret
   exact⟨by rw[HB.out];rfl,za hb2 y.h⟩
theorem DecR.mono{cs:List Cls}{x:Ins}{w w':World}{g:Sg}{A:Option Addr}{c:Nat}{ok:Bool}(h:DecR cs x w g A c ok)(hb:Below w.heap.size w w'):DecR cs x w' g A c ok:=⟨h.sl.mono hb,h.le,h.pl,h.yes,h.no⟩
theorem LokR.mono{cs:List Cls}{q:Int×Int}{w w':World}{nm:ByteArray}{g:Sg}{A:Option Addr}{c:Nat}{ok:Bool}(h:LokR cs q w nm g A c ok)(hb:Below w.heap.size w w'):LokR cs q w' nm g A c ok:=⟨h.sl.mono hb,h.le,h.pl,h.yes,h.no⟩
end Go.Proofs.YtmhdambkchlilaaGreatDoor
