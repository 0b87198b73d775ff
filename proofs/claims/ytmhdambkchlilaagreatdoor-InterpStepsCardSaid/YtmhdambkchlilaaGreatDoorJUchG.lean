/- Chapter 13: inRange: what it returns. -/
import Derived.Test.YtmhdambkchlilaaGreatDoorJUe
namespace Go.Proofs.YtmhdambkchlilaaGreatDoor
open Go.RowKit
set_option linter.unusedVariables false
set_option maxRecDepth 100000
set_option maxHeartbeats 4000000
def rgD(n:Nat)(c:Ins):Bool:=zp c.op 100 && !varB n c.dst&&(!zp c.op 42||c.dst != -1)
def rgA(n:Nat)(c:Ins):Bool:=zp c.op 97 && !varB n c.a&&(c.op != 13||c.a != -1)
def rgB(n:Nat)(c:Ins):Bool:=zp c.op 98 && !varB n c.b
def rgG(k:Nat)(c:Ins):Bool:=zp c.op 103&&(decide (c.jmp<0)||decide ((k:Int)≤c.jmp))
theorem aby(n:Nat)(code:List Ins)(c:Ins):yL n code c=(!rgD n c && !rgA n c && !rgB n c&&c.args.all (varB n) && !rgG code.length c&&(c.hnd == -1||zL code c.hnd)):=by
 unfold yL rgD rgA rgB rgG;have e:∀a b:Int,decide (a≠b)=(a != b):=fun a b=>by cases h:a != b<;>simp_all
 have e2:∀a b:Int,decide (a=b)=(a==b):=fun a b=>by cases h:a==b<;>simp_all
 rw[e,e,e,e2]
theorem aeG(f:Fun)(x:Ins)(AV AC AI:Option Addr)(cV cC cI:Nat)(w:World)(hl:f.code.length≤8796093022208)(hla:x.args.length≤17592186044416)(hs:Sl Lay.ins w AC f.code)(ha:Sl Lay.int w AI x.args)(hfx:yw w) :
  Calls Tryz.prog 155 #[.agg #[.string f.cls,.string f.name,.bool f.static,.int .i64 f.nparams,.slice AV f.vars.length cV,.string f.result,.slice AC f.code.length cC],.agg #[.int .i64 x.op,.int .i64 x.dst,.int .i64 x.a,.int .i64 x.b,.int .i64 x.n,.string x.cls,.string x.name,.slice AI x.args.length cI,.int .i64 x.jmp,.int .i64 x.hnd]] w fun e w'=>e = .returned (.bool (yL f.vars.length f.code x))∧Below w.heap.size w w':=by
 obtain⟨r,HR⟩:∃r,Hid (r=yL f.vars.length f.code x):=⟨_,v9h rfl⟩
 rw[←HR.out];have HR0:Hid (r=(!rgD f.vars.length x && !rgA f.vars.length x && !rgB f.vars.length x&&x.args.all (varB f.vars.length) && !rgG f.code.length x&&(x.hnd == -1||zL f.code x.hnd))):=by show r=_;rw[HR.out,aby]
 clear HR
 go_enter Tryz.func155,Tryz.ntmps155
 go_upto_region 2 with fail
 generalize hW:World.alloc _ _=W1 at *
 have hb1:Below w.heap.size w W1:=by rw[←hW];exact(by repeat(first|assumption|exact v9r|apply zc|apply zd|apply zg|apply ze|apply zi))
 have bf:Box W1 w.heap.size [.string f.cls,.string f.name,.bool f.static,.int .i64 f.nparams,.slice AV f.vars.length cV,.string f.result,.slice AC f.code.length cC] 42:=by rw[←hW];exact(by repeat(first|(refine Box.at ?_;(simp;done))|apply Box.drew|apply Box.alloc|assumption))
 have bx:Box W1 (w.heap.size+1) [.int .i64 x.op,.int .i64 x.dst,.int .i64 x.a,.int .i64 x.b,.int .i64 x.n,.string x.cls,.string x.name,.slice AI x.args.length cI,.int .i64 x.jmp,.int .i64 x.hnd] 59:=by rw[←hW];exact(by repeat(first|(refine Box.at ?_;(simp;done))|apply Box.drew|apply Box.alloc|assumption))
 clear hW;have hfW:=hfx.mono hb1;have p0:=bx.cell 0 rfl;have p1:=bx.cell 1 rfl;have p2:=bx.cell 2 rfl;have p3:=bx.cell 3 rfl;have p7:=bx.cell 7 rfl;have p8:=bx.cell 8 rfl;have p9:=bx.cell 9 rfl;have pl:=bx.lt;have f0:=bf.cell 0 rfl;have f1:=bf.cell 1 rfl;have f2:=bf.cell 2 rfl;have f3:=bf.cell 3 rfl;have f4:=bf.cell 4 rfl;have f5:=bf.cell 5 rfl;have f6:=bf.cell 6 rfl;have fl:=bf.lt
 go_cut [29] (fun s29 wx=>s29 = .bool (rgD f.vars.length x)∧W1=wx)
 case first=>
  cases hd:zp x.op 100 with
  |false=>
   go_wp2_with fail
   refine(zj hd _ hfW).mono ?_;rintro e w9 ⟨rfl,hw9⟩;subst hw9;have HB:Hid (rgD f.vars.length x=false):=by show _=_;unfold rgD;rw[hd];rfl
   go_wp2_with fail
   go_meet
   exact⟨by rw[HB.out],rfl⟩
  |true=>
   cases hv:varB f.vars.length x.dst with
   |true=>
    go_wp2_with fail
    refine(zj hd _ hfW).mono ?_;rintro e w9 ⟨rfl,hw9⟩;subst hw9
    go_wp2_with fail
    refine(yr w.heap.size f AV AC cV cC x.dst _ bf).mono ?_;rintro e w9 ⟨rfl,hw9⟩;subst hw9;rw[hv];have HB:Hid (rgD f.vars.length x=false):=by show _=_;unfold rgD;rw[hd,hv];rfl
    go_wp2_with fail
    go_meet
    exact⟨by rw[HB.out],rfl⟩
   |false=>
    cases hst:zp x.op 42 with
    |false=>
     go_wp2_with fail
     refine(zj hd _ hfW).mono ?_;rintro e w9 ⟨rfl,hw9⟩;subst hw9
     go_wp2_with fail
     refine(yr w.heap.size f AV AC cV cC x.dst _ bf).mono ?_;rintro e w9 ⟨rfl,hw9⟩;subst hw9;rw[hv]
     go_wp2_with fail
     refine(zj hst _ hfW).mono ?_;rintro e w9 ⟨rfl,hw9⟩;subst hw9;have HB:Hid (rgD f.vars.length x=true):=by show _=_;unfold rgD;rw[hd,hv,hst];rfl
     go_wp2_with fail
     go_meet
     exact⟨by rw[HB.out],rfl⟩
    |true=>
     cases hm:(x.dst != -1) with
     |false=>
      go_wp2_with fail
      refine(zj hd _ hfW).mono ?_;rintro e w9 ⟨rfl,hw9⟩;subst hw9
      go_wp2_with fail
      refine(yr w.heap.size f AV AC cV cC x.dst _ bf).mono ?_;rintro e w9 ⟨rfl,hw9⟩;subst hw9;rw[hv]
      go_wp2_with fail
      refine(zj hst _ hfW).mono ?_;rintro e w9 ⟨rfl,hw9⟩;subst hw9;have HB:Hid (rgD f.vars.length x=false):=by show _=_;unfold rgD;rw[hd,hv,hst,hm];rfl
      go_wp2_with fail
      go_meet
      exact⟨by rw[HB.out],rfl⟩
     |true=>
      go_wp2_with fail
      refine(zj hd _ hfW).mono ?_;rintro e w9 ⟨rfl,hw9⟩;subst hw9
      go_wp2_with fail
      refine(yr w.heap.size f AV AC cV cC x.dst _ bf).mono ?_;rintro e w9 ⟨rfl,hw9⟩;subst hw9;rw[hv]
      go_wp2_with fail
      refine(zj hst _ hfW).mono ?_;rintro e w9 ⟨rfl,hw9⟩;subst hw9;have HB:Hid (rgD f.vars.length x=true):=by show _=_;unfold rgD;rw[hd,hv,hst,hm];rfl
      go_wp2_with fail
      go_meet
      exact⟨by rw[HB.out],rfl⟩
 case rest=>
 obtain⟨rfl,rfl⟩:=hcut
 cases hD:rgD f.vars.length x with
 |true=>
  have HB:Hid (r=false):=by show r=false;rw[HR0.out,hD];simp
  go_wp2_with fail
  go_ret
  exact⟨by rw[HB.out];rfl,hb1⟩
 |false=>
 have HR1:Hid (r=(!rgA f.vars.length x && !rgB f.vars.length x&&x.args.all (varB f.vars.length) && !rgG f.code.length x&&(x.hnd == -1||zL f.code x.hnd))):=by show r=_;rw[HR0.out,hD];simp
 clear hD
 go_upto_region 4 with fail
 go_cut [49] (fun s49 wx=>s49 = .bool (rgA f.vars.length x)∧W1=wx)
 case first=>
  cases hd:zp x.op 97 with
  |false=>
   go_wp2_with fail
   refine(zj hd _ hfW).mono ?_;rintro e w9 ⟨rfl,hw9⟩;subst hw9;have HB:Hid (rgA f.vars.length x=false):=by show _=_;unfold rgA;rw[hd];rfl
   go_wp2_with fail
   go_meet
   exact⟨by rw[HB.out],rfl⟩
  |true=>
   cases hv:varB f.vars.length x.a with
   |true=>
    go_wp2_with fail
    refine(zj hd _ hfW).mono ?_;rintro e w9 ⟨rfl,hw9⟩;subst hw9
    go_wp2_with fail
    refine(yr w.heap.size f AV AC cV cC x.a _ bf).mono ?_;rintro e w9 ⟨rfl,hw9⟩;subst hw9;rw[hv];have HB:Hid (rgA f.vars.length x=false):=by show _=_;unfold rgA;rw[hd,hv];rfl
    go_wp2_with fail
    go_meet
    exact⟨by rw[HB.out],rfl⟩
   |false=>
    cases hst:(x.op != 13) with
    |true=>
     go_wp2_with fail
     refine(zj hd _ hfW).mono ?_;rintro e w9 ⟨rfl,hw9⟩;subst hw9
     go_wp2_with fail
     refine(yr w.heap.size f AV AC cV cC x.a _ bf).mono ?_;rintro e w9 ⟨rfl,hw9⟩;subst hw9;rw[hv];have HB:Hid (rgA f.vars.length x=true):=by show _=_;unfold rgA;rw[hd,hv,hst];rfl
     go_wp2_with fail
     go_meet
     exact⟨by rw[HB.out],rfl⟩
    |false=>
     cases hm:(x.a != -1) with
     |false=>
      go_wp2_with fail
      refine(zj hd _ hfW).mono ?_;rintro e w9 ⟨rfl,hw9⟩;subst hw9
      go_wp2_with fail
      refine(yr w.heap.size f AV AC cV cC x.a _ bf).mono ?_;rintro e w9 ⟨rfl,hw9⟩;subst hw9;rw[hv];have HB:Hid (rgA f.vars.length x=false):=by show _=_;unfold rgA;rw[hd,hv,hst,hm];rfl
      go_wp2_with fail
      go_meet
      exact⟨by rw[HB.out],rfl⟩
     |true=>
      go_wp2_with fail
      refine(zj hd _ hfW).mono ?_;rintro e w9 ⟨rfl,hw9⟩;subst hw9
      go_wp2_with fail
      refine(yr w.heap.size f AV AC cV cC x.a _ bf).mono ?_;rintro e w9 ⟨rfl,hw9⟩;subst hw9;rw[hv];have HB:Hid (rgA f.vars.length x=true):=by show _=_;unfold rgA;rw[hd,hv,hst,hm];rfl
      go_wp2_with fail
      go_meet
      exact⟨by rw[HB.out],rfl⟩
 case rest=>
 obtain⟨rfl,rfl⟩:=hcut
 cases hD:rgA f.vars.length x with
 |true=>
  have HB:Hid (r=false):=by show r=false;rw[HR1.out,hD];simp
  go_wp2_with fail
  go_ret
  exact⟨by rw[HB.out];rfl,hb1⟩
 |false=>
 have HR2:Hid (r=(!rgB f.vars.length x&&x.args.all (varB f.vars.length) && !rgG f.code.length x&&(x.hnd == -1||zL f.code x.hnd))):=by show r=_;rw[HR1.out,hD];simp
 clear hD
 go_upto_region 6 with fail
 go_cut [59] (fun s59 wx=>s59 = .bool (rgB f.vars.length x)∧W1=wx)
 case first=>
  cases hd:zp x.op 98 with
  |false=>
   go_wp2_with fail
   refine(zj hd _ hfW).mono ?_;rintro e w9 ⟨rfl,hw9⟩;subst hw9;have HB:Hid (rgB f.vars.length x=false):=by show _=_;unfold rgB;rw[hd];rfl
   go_wp2_with fail
   go_meet
   exact⟨by rw[HB.out],rfl⟩
  |true=>
   cases hv:varB f.vars.length x.b with
   |true=>
    go_wp2_with fail
    refine(zj hd _ hfW).mono ?_;rintro e w9 ⟨rfl,hw9⟩;subst hw9
    go_wp2_with fail
    refine(yr w.heap.size f AV AC cV cC x.b _ bf).mono ?_;rintro e w9 ⟨rfl,hw9⟩;subst hw9;rw[hv];have HB:Hid (rgB f.vars.length x=false):=by show _=_;unfold rgB;rw[hd,hv];rfl
    go_wp2_with fail
    go_meet
    exact⟨by rw[HB.out],rfl⟩
   |false=>
    go_wp2_with fail
    refine(zj hd _ hfW).mono ?_;rintro e w9 ⟨rfl,hw9⟩;subst hw9
    go_wp2_with fail
    refine(yr w.heap.size f AV AC cV cC x.b _ bf).mono ?_;rintro e w9 ⟨rfl,hw9⟩;subst hw9;rw[hv];have HB:Hid (rgB f.vars.length x=true):=by show _=_;unfold rgB;rw[hd,hv];rfl
    go_wp2_with fail
    go_meet
    exact⟨by rw[HB.out],rfl⟩
 case rest=>
 obtain⟨rfl,rfl⟩:=hcut
 cases hD:rgB f.vars.length x with
 |true=>
  have HB:Hid (r=false):=by show r=false;rw[HR2.out,hD];simp
  go_wp2_with fail
  go_ret
  exact⟨by rw[HB.out];rfl,hb1⟩
 |false=>
 have HR3:Hid (r=(x.args.all (varB f.vars.length) && !rgG f.code.length x&&(x.hnd == -1||zL f.code x.hnd))):=by show r=_;rw[HR2.out,hD];simp
 clear hD;have hsA:=ha.mono hb1
 go_wp2_with fail
 go_loopw [7,63] (fun j v wr=>∃q:Nat,q≤x.args.length∧v = .int .i64 q∧W1=wr∧Hid (∀z (hz:z<q) (hz2:z<x.args.length),varB f.vars.length x.args[z]=true)) (fun _ v _=>x.args.length-(intOf v).toNat)
 case atStart=>exact⟨0,Nat.zero_le _,rfl,rfl,fun z hz=>by omega⟩
 case round=>
  obtain⟨q,hq,rfl,rfl,HN⟩:=hrel
  by_cases hlt:q<x.args.length
  ·obtain⟨b,o,rfl,hb,d0⟩:=hsA.int_at hlt
   cases hv:varB f.vars.length x.args[q] with
   |false=>
    have HB:Hid (r=false):=by
     show r=false;rw[HR3.out,show x.args.all (varB f.vars.length)=false from by rw[List.all_eq_false];exact⟨_,List.getElem_mem hlt,by rw[hv];simp⟩];simp
    go_wp2_with fail
    refine(yr w.heap.size f AV AC cV cC x.args[q] _ (by assumption)).mono ?_;rintro e w9 ⟨rfl,hw9⟩;subst hw9;rw[hv]
    go_wp2_with fail
    go_ret
    exact⟨by rw[HB.out];rfl,hb1⟩
   |true=>
    have HE:Hid (∀z (hz:z<q+1) (hz2:z<x.args.length),varB f.vars.length x.args[z]=true):=fun z hz hz2=>by
     by_cases e:z=q
     ·subst e;exact hv
     ·exact HN.out z (by omega) hz2
    go_wp2_with fail
    refine(yr w.heap.size f AV AC cV cC x.args[q] _ bf).mono ?_;rintro e w9 ⟨rfl,hw9⟩;subst hw9;rw[hv];clear hv
    go_wp2_with fail
    go_roundw
    case rel=>exact⟨q+1,by omega,by go_num,by first|rfl|trivial,HE⟩
    case measure=>simp[intOf];omega
  ·have HR4:Hid (r=(!rgG f.code.length x&&(x.hnd == -1||zL f.code x.hnd))):=by
    show r=_;rw[HR3.out,show x.args.all (varB f.vars.length)=true from by rw[List.all_eq_true];intro z hz;obtain⟨k,hk,rfl⟩:=List.getElem_of_mem hz;exact HN.out k (by omega) hk];rfl
   go_upto_region 14 with fail
   go_cut [87] (fun s87 wx=>s87 = .bool (rgG f.code.length x)∧W1=wx)
   case first=>
    cases hd:zp x.op 103 with
    |false=>
     have HB:Hid (rgG f.code.length x=false):=by show _=_;unfold rgG;rw[hd];rfl
     go_wp2_with fail
     refine(zj hd _ hfW).mono ?_;rintro e w9 ⟨rfl,hw9⟩;subst hw9
     go_wp2_with fail
     go_meet
     exact⟨by rw[HB.out],rfl⟩
    |true=>
     by_cases j0:x.jmp<0
     ·have HB:Hid (rgG f.code.length x=true):=by show _=_;unfold rgG;rw[hd,decide_eq_true j0];rfl
      go_wp2_with fail
      refine(zj hd _ hfW).mono ?_;rintro e w9 ⟨rfl,hw9⟩;subst hw9
      go_wp2_with fail
      go_meet
      exact⟨by rw[HB.out],rfl⟩
     ·by_cases j1:(f.code.length:Int)≤x.jmp
      ·have HB:Hid (rgG f.code.length x=true):=by show _=_;unfold rgG;rw[hd,decide_eq_true j1];simp
       go_wp2_with fail
       refine(zj hd _ hfW).mono ?_;rintro e w9 ⟨rfl,hw9⟩;subst hw9
       go_wp2_with fail
       go_meet
       exact⟨by rw[HB.out],rfl⟩
      ·have HB:Hid (rgG f.code.length x=false):=by show _=_;unfold rgG;rw[hd,decide_eq_false j0,decide_eq_false j1];rfl
       go_wp2_with fail
       refine(zj hd _ hfW).mono ?_;rintro e w9 ⟨rfl,hw9⟩;subst hw9
       go_wp2_with fail
       go_meet
       exact⟨by rw[HB.out];simp;omega,rfl⟩
   case rest=>
   obtain⟨rfl,rfl⟩:=hcut
   cases hD:rgG f.code.length x with
   |true=>
    have HB:Hid (r=false):=by show r=false;rw[HR4.out,hD];simp
    go_wp2_with fail
    go_ret
    exact⟨by rw[HB.out];rfl,hb1⟩
   |false=>
   have HR5:Hid (r=(x.hnd == -1||zL f.code x.hnd)):=by show r=_;rw[HR4.out,hD];simp
   clear hD
   cases hh:(x.hnd == -1) with
   |true=>
    have HB:Hid (r=true):=by show r=true;rw[HR5.out,hh];rfl
    go_wp2_with fail
    go_ret
    exact⟨by rw[HB.out];rfl,hb1⟩
   |false=>
    have HB:Hid (r=zL f.code x.hnd):=by show r=_;rw[HR5.out,hh];rfl
    go_wp2_with fail
    refine(ja f AV AC cV cC x.hnd _ (hs.mono hb1)).mono ?_;rintro e w2 ⟨rfl,hb2⟩
    go_wp2_with fail
    go_ret
    exact⟨by rw[HB.out];rfl,za hb1 hb2⟩
end Go.Proofs.YtmhdambkchlilaaGreatDoor
