/- Chapter 13: instrError: the error of an instruction. Chapter 13: belongs: whether a function is that of a method. Chapter 13: funcError: the error of a function, apart from those of its instructions. Chapter 13: unitError: the first error of a unit that concerns no function. -/
import Derived.Test.YtmhdambkchlilaaGreatDoorJUchN
import Derived.Test.YtmhdambkchlilaaGreatDoorJUchG
import Derived.Test.YtmhdambkchlilaaGreatDoorJUchD
import Derived.Test.YtmhdambkchlilaaGreatDoorJGa
import Derived.Test.YtmhdambkchlilaaGreatDoorJGd
namespace Go.Proofs.YtmhdambkchlilaaGreatDoor
open Go.RowKit
set_option linter.unusedVariables false
set_option maxRecDepth 100000
set_option maxHeartbeats 4000000
structure FnH(w:World)(cs:List Cls)(f:Fun)(AH AV AC:Option Addr)(cH:Nat):Prop where
 hl:cs.length≤8796093022208
 hcc:cs.length≤cH
 hs:Sl Lay.cls w AH cs
 hok:yQ cs
 hlk:yp cs
 hv:Sl Lay.fld w AV f.vars
 hvl:f.vars.length≤8796093022208
 hvo:∀v∈f.vars,zG v.name∧zG v.typ
 hc:Sl Lay.ins w AC f.code
 hcl:f.code.length≤8796093022208
 hio:∀x∈f.code,zG x.cls∧x.args.length≤17592186044416
 hxr:zG f.result
 hfx:yw w
 hkw:KwX w
theorem FnH.mono{w w':World}{cs:List Cls}{f:Fun}{AH AV AC:Option Addr}{cH:Nat}(H:FnH w cs f AH AV AC cH)(hb:Below w.heap.size w w'):FnH w' cs f AH AV AC cH:=
 ⟨H.hl,H.hcc,H.hs.mono hb,H.hok,H.hlk,H.hv.mono hb,H.hvl,H.hvo,H.hc.mono hb,H.hcl,H.hio,H.hxr,H.hfx.mono hb,H.hkw.mono hb⟩
theorem ae1{n:Nat}{code:List Ins}{x:Ins}(h:yL n code x=true):RgOk n x:=by
 rw[aby] at h;simp only[Bool.and_eq_true,Bool.not_eq_true'] at h;obtain⟨⟨⟨⟨⟨hd,ha⟩,hb⟩,hs⟩,_⟩,_⟩:=h;refine⟨fun u=>?_,fun u=>?_,fun u=>?_,fun v hv=>List.all_eq_true.1 hs v hv⟩
 ·unfold rgD at hd
  rw[u] at hd
  cases hv:varB n x.dst with
  |true=>exact Or.inl rfl
  |false=>
   rw[hv] at hd
   cases hu:zp x.op 42 with
   |false=>rw[hu] at hd;cases hd
   |true=>
    rw[hu] at hd;refine Or.inr ⟨rfl,?_⟩
    cases hm:(x.dst != -1) with
    |true=>rw[hm] at hd;cases hd
    |false=>simpa using hm
 ·unfold rgA at ha
  rw[u] at ha
  cases hv:varB n x.a with
  |true=>exact Or.inl rfl
  |false=>
   rw[hv] at ha
   cases hu:(x.op != 13) with
   |true=>rw[hu] at ha;cases ha
   |false=>
    rw[hu] at ha;refine Or.inr ⟨by simpa using hu,?_⟩
    cases hm:(x.a != -1) with
    |true=>rw[hm] at ha;cases ha
    |false=>simpa using hm
 ·unfold rgB at hb
  rw[u] at hb
  cases hv:varB n x.b with
  |true=>rfl
  |false=>rw[hv] at hb;cases hb
def zT(x:Ins):Bool:= !zH x.op||(x.op==4)&&(decide (x.n<1)||decide (5<x.n))
theorem aa8(cs:List Cls)(vars:List Fld)(res:ByteArray)(code:List Ins)(i:Nat)(c:Ins) :
  insE cs vars res code i c=if zT c then 12 else if !zE c then 1 else if !yL vars.length code c then 4 else if !ctlB code i c then 1 else insT cs vars res c:=by
 unfold insE zT;have e:decide (c.op=4)=(c.op==4):=by cases h:c.op==4<;>simp_all
 rw[e]
theorem ab1(cs:List Cls)(f:Fun)(AH AV AC:Option Addr)(cH cV cC i:Nat)(w:World)(H:Hid (FnH w cs f AH AV AC cH))(hi:i<f.code.length) :
  Calls Tryz.prog 86 #[.agg #[.slice AH cs.length cH],.agg #[.string f.cls,.string f.name,.bool f.static,.int .i64 f.nparams,.slice AV f.vars.length cV,.string f.result,.slice AC f.code.length cC],.int .i64 i] w fun e w'=>e = .returned (.int .i64 (insE cs f.vars f.result f.code i f.code[i]))∧Below w.heap.size w w':=by
 obtain⟨r,HR⟩:∃r,Hid (r=insE cs f.vars f.result f.code i f.code[i]):=⟨_,v9h rfl⟩
 rw[←HR.out];have HR2:Hid (r=if zT f.code[i] then 12 else if !zE f.code[i] then 1 else if !yL f.vars.length f.code f.code[i] then 4 else if !ctlB f.code i f.code[i] then 1 else insT cs f.vars f.result f.code[i]):=by show r=_;rw[HR.out,aa8]
 have hio:=H.out.hio _ (List.getElem_mem hi);obtain⟨b,o,AI,cI,rfl,hb,d0,d1,d2,d3,d4,d5,d6,d7,d8,d9,hc7,hs7⟩:=H.out.hc.ins_at hi;have HCT:Hid (∀W,Below w.heap.size w W→Calls Tryz.prog 156 #[.agg #[.string f.cls,.string f.name,.bool f.static,.int .i64 f.nparams,.slice AV f.vars.length cV,.string f.result,.slice (some ⟨b,o,none⟩) f.code.length cC],.int .i64 i] W fun e w'=>e = .returned (.bool (ctlB f.code i f.code[i]))∧Below W.heap.size W w'):=fun W h=>abZ f AV _ cV cC i W H.out.hcl hi (H.out.hc.mono h) (H.out.hfx.mono h)
 generalize hx:f.code[i]=x at *
 clear HR hx
 go_enter Tryz.func86,Tryz.ntmps86
 go_upto_region 2 with fail
 generalize hW:World.alloc _ _=W1 at *
 have hb1:Below w.heap.size w W1:=by rw[←hW];exact(by repeat(first|assumption|exact v9r|apply zc|apply zd|apply zg|apply ze|apply zi))
 have bh:Box W1 w.heap.size [.slice AH cs.length cH] 29:=by rw[←hW];exact(by repeat(first|(refine Box.at ?_;(simp;done))|apply Box.drew|apply Box.alloc|assumption))
 have bf:Box W1 (w.heap.size+1) [.string f.cls,.string f.name,.bool f.static,.int .i64 f.nparams,.slice AV f.vars.length cV,.string f.result,.slice (some ⟨b,o,none⟩) f.code.length cC] 42:=by rw[←hW];exact(by repeat(first|(refine Box.at ?_;(simp;done))|apply Box.drew|apply Box.alloc|assumption))
 have bx:Box W1 (w.heap.size+2) [.int .i64 x.op,.int .i64 x.dst,.int .i64 x.a,.int .i64 x.b,.int .i64 x.n,.string x.cls,.string x.name,.slice AI x.args.length cI,.int .i64 x.jmp,.int .i64 x.hnd] 59:=by rw[←hW];exact(by repeat(first|(refine Box.at ?_;(simp;done))|apply Box.drew|apply Box.alloc|assumption))
 clear hW d0 d1 d2 d3 d4 d5 d6 d7 d8 d9;have p0:=bx.cell 0 rfl;have p4:=bx.cell 4 rfl;have pl:=bx.lt
 go_cut [31] (fun s wx=>s = .bool (zT x)∧W1=wx)
 case first=>
  cases hk:zH x.op with
  |false=>
   have HB:Hid (zT x=true):=by show _=_;unfold zT;rw[hk];rfl
   go_wp2_with fail
   refine(jl x.op _).mono ?_;rintro e w2 ⟨rfl,rfl⟩;rw[hk]
   go_wp2_with fail
   go_meet
   exact⟨by rw[HB.out],rfl⟩
  |true=>
   cases h4:(x.op==4) with
   |false=>
    have HB:Hid (zT x=false):=by show _=_;unfold zT;rw[hk,h4];rfl
    go_wp2_with fail
    refine(jl x.op _).mono ?_;rintro e w2 ⟨rfl,rfl⟩;rw[hk]
    go_wp2_with fail
    go_meet
    exact⟨by rw[HB.out],rfl⟩
   |true=>
    by_cases hn1:x.n<1
    ·have HB:Hid (zT x=true):=by show _=_;unfold zT;rw[hk,h4,decide_eq_true hn1];rfl
     go_wp2_with fail
     refine(jl x.op _).mono ?_;rintro e w2 ⟨rfl,rfl⟩;rw[hk]
     go_wp2_with fail
     go_meet
     exact⟨by rw[HB.out],rfl⟩
    ·by_cases hn5:5<x.n
     ·have HB:Hid (zT x=true):=by show _=_;unfold zT;rw[hk,h4,decide_eq_true hn5];simp
      go_wp2_with fail
      refine(jl x.op _).mono ?_;rintro e w2 ⟨rfl,rfl⟩;rw[hk]
      go_wp2_with fail
      go_meet
      exact⟨by rw[HB.out],rfl⟩
     ·have HB:Hid (zT x=false):=by show _=_;unfold zT;rw[hk,h4,decide_eq_false hn5,decide_eq_false hn1];rfl
      go_wp2_with fail
      refine(jl x.op _).mono ?_;rintro e w2 ⟨rfl,rfl⟩;rw[hk]
      go_wp2_with fail
      go_meet
      exact⟨by rw[HB.out];simp;omega,rfl⟩
 case rest=>
 obtain⟨rfl,rfl⟩:=hcut;clear p0 p4 pl
 cases hkb:zT x with
 |true=>
  have HB:Hid (r=12):=by show r=12;rw[HR2.out,hkb];rfl
  go_wp2_with fail
  go_ret
  exact⟨by rw[HB.out];rfl,hb1⟩
 |false=>
 have hkn:zH x.op=true:=by
  cases hk:zH x.op with
  |true=>rfl
  |false=>unfold zT at hkb;rw[hk] at hkb;cases hkb
 have HR3:Hid (r=if !zE x then 1 else if !yL f.vars.length f.code x then 4 else if !ctlB f.code i x then 1 else insT cs f.vars f.result x):=by show r=_;rw[HR2.out,hkb];rfl
 have HK:=v9h hkn;clear HR2 hkn hkb;have p0:=bx.cell 0 rfl;have p1:=bx.cell 1 rfl;have p2:=bx.cell 2 rfl;have p3:=bx.cell 3 rfl;have p4:=bx.cell 4 rfl;have p5:=bx.cell 5 rfl;have p6:=bx.cell 6 rfl;have p7:=bx.cell 7 rfl;have p8:=bx.cell 8 rfl;have p9:=bx.cell 9 rfl;have pl:=bx.lt
 go_wp2_with fail
 refine(ab0 x AI cI _ (H.out.hfx.mono hb1)).mono ?_;rintro e w2 ⟨rfl,hq2⟩;have hb2:=za hb1 hq2;have bh2:=bh.mono hq2;have bf2:=bf.mono hq2;have bx2:=bx.mono hq2;clear p0 p1 p2 p3 p4 p5 p6 p7 p8 p9 pl
 cases hz:zE x with
 |false=>
  have HB:Hid (r=1):=by show r=1;rw[HR3.out,hz];rfl
  go_wp2_with fail
  go_ret
  exact⟨by rw[HB.out];rfl,hb2⟩
 |true=>
 have HR4:Hid (r=if !yL f.vars.length f.code x then 4 else if !ctlB f.code i x then 1 else insT cs f.vars f.result x):=by show r=_;rw[HR3.out,hz];rfl
 clear HR3 hz bh bf bx hq2;have p0:=bx2.cell 0 rfl;have p1:=bx2.cell 1 rfl;have p2:=bx2.cell 2 rfl;have p3:=bx2.cell 3 rfl;have p4:=bx2.cell 4 rfl;have p5:=bx2.cell 5 rfl;have p6:=bx2.cell 6 rfl;have p7:=bx2.cell 7 rfl;have p8:=bx2.cell 8 rfl;have p9:=bx2.cell 9 rfl;have pl:=bx2.lt;have f0:=bf2.cell 0 rfl;have f1:=bf2.cell 1 rfl;have f2:=bf2.cell 2 rfl;have f3:=bf2.cell 3 rfl;have f4:=bf2.cell 4 rfl;have f5:=bf2.cell 5 rfl;have f6:=bf2.cell 6 rfl;have fl:=bf2.lt
 go_wp2_with fail
 refine(aeG f x AV _ AI cV cC cI _ H.out.hcl hio.2 (H.out.hc.mono hb2) (hs7.mono hb2) (H.out.hfx.mono hb2)).mono ?_;rintro e w3 ⟨rfl,hq3⟩;have hb3:=za hb2 hq3;have bh3:=bh2.mono hq3;have bf3:=bf2.mono hq3;have bx3:=bx2.mono hq3;clear p0 p1 p2 p3 p4 p5 p6 p7 p8 p9 pl;clear f0 f1 f2 f3 f4 f5 f6 fl
 cases hr:yL f.vars.length f.code x with
 |false=>
  have HB:Hid (r=4):=by show r=4;rw[HR4.out,hr];rfl
  go_wp2_with fail
  go_ret
  exact⟨by rw[HB.out];rfl,hb3⟩
 |true=>
 have HR5:Hid (r=if !ctlB f.code i x then 1 else insT cs f.vars f.result x):=by show r=_;rw[HR4.out,hr];rfl
 have HRG:=v9h (ae1 hr);clear HR4 hr bh2 bf2 bx2 hq3;have f0:=bf3.cell 0 rfl;have f1:=bf3.cell 1 rfl;have f2:=bf3.cell 2 rfl;have f3:=bf3.cell 3 rfl;have f4:=bf3.cell 4 rfl;have f5:=bf3.cell 5 rfl;have f6:=bf3.cell 6 rfl;have fl:=bf3.lt
 go_wp2_with fail
 refine(HCT.out _ hb3).mono ?_;rintro e w4 ⟨rfl,hq4⟩;have hb4:=za hb3 hq4;have bh4:=bh3.mono hq4;have bf4:=bf3.mono hq4;have bx4:=bx3.mono hq4;clear f0 f1 f2 f3 f4 f5 f6 fl
 cases hc:ctlB f.code i x with
 |false=>
  have HB:Hid (r=1):=by show r=1;rw[HR5.out,hc];rfl
  go_wp2_with fail
  go_ret
  exact⟨by rw[HB.out];rfl,hb4⟩
 |true=>
 have HB:Hid (r=insT cs f.vars f.result x):=by show r=_;rw[HR5.out,hc];rfl
 clear HR5 hc bh3 bf3 bx3 hq4;have HT:Hid (TyH w4 cs f x AH AV AI cH):=⟨H.out.hl,H.out.hcc,H.out.hs.mono hb4,H.out.hok,H.out.hlk,H.out.hv.mono hb4,(fun v hv=>(H.out.hvo v hv).2),hs7.mono hb4,hio.2,HRG.out,hio.1,H.out.hxr⟩
 have p0:=bx4.cell 0 rfl;have p1:=bx4.cell 1 rfl;have p2:=bx4.cell 2 rfl;have p3:=bx4.cell 3 rfl;have p4:=bx4.cell 4 rfl;have p5:=bx4.cell 5 rfl;have p6:=bx4.cell 6 rfl;have p7:=bx4.cell 7 rfl;have p8:=bx4.cell 8 rfl;have p9:=bx4.cell 9 rfl;have pl:=bx4.lt;have f0:=bf4.cell 0 rfl;have f1:=bf4.cell 1 rfl;have f2:=bf4.cell 2 rfl;have f3:=bf4.cell 3 rfl;have f4:=bf4.cell 4 rfl;have f5:=bf4.cell 5 rfl;have f6:=bf4.cell 6 rfl;have fl:=bf4.lt;have h0:=bh4.cell 0 rfl;have hlb:=bh4.lt
 go_wp2_with fail
 refine(adD cs f x AH AV _ AI cH cV cC cI _ HT HK.out).mono ?_;rintro e w5 ⟨rfl,hq5⟩
 go_wp2_with fail
 go_ret
 exact⟨by rw[HB.out];rfl,za hb4 hq5⟩
theorem aam:qc Tryz.prog 34 9 1 16 (.string ByteArray.empty):=⟨Tryz.underlying34,by kernel_rfl,rfl,by omega⟩
def yo(cl:ByteArray)(m:Sg)(f:Fun):Bool:=f.cls.toList==cl.toList&&(f.name.toList==m.name.toList&&(f.static==m.static&&f.result.toList==m.result.toList))
def qx(P:List ByteArray)(f:Fun)(i:Nat):Bool:=decide (((f.vars[i]?).map (·.typ))=P[i]?)
theorem kL(a b:ByteArray):decide (a=b)=(a.toList==b.toList):=by
 cases h:(a.toList==b.toList) with
 |true=>exact decide_eq_true (zO.1 h)
 |false=>exact decide_eq_false fun e=>by rw[zO.2 e] at h;cases h
theorem aa9(cl:ByteArray)(m:Sg)(f:Fun):belB cl m f=(yo cl m f&&decide (f.nparams=(parL cl m).length)&&decide ((parL cl m).length≤f.vars.length)&&(List.range (parL cl m).length).all (qx (parL cl m) f)&&(m.static||decide (((f.vars[0]?).map (·.name.toList))=some qD))):=by
 unfold belB yo;rw[kL,kL,kL];have e:decide (f.static=m.static)=(f.static==m.static):=by cases f.static<;>cases m.static<;>rfl
 rw[e];simp only[Bool.and_assoc]
 rfl
theorem adP{P:List ByteArray}{f:Fun}{k:Nat}(h1:k<P.length)(h2:k<f.vars.length):qx P f k=(f.vars[k].typ.toList==P[k].toList):=by
 unfold qx;rw[List.getElem?_eq_getElem h1,List.getElem?_eq_getElem h2,←kL]
 simp
theorem adQ{cl:ByteArray}{m:Sg}(h:m.static=false):0<(parL cl m).length:=by unfold parL;rw[h];simp
theorem aeH(cl:ByteArray)(m:Sg)(f:Fun)(AP AV AC:Option Addr)(cP cV cC:Nat)(w:World)(hp:Sl Lay.str w AP m.params)(hpl:m.params.length≤1000000)(hv:Sl Lay.fld w AV f.vars)(hvl:f.vars.length≤8796093022208) :
  Calls Tryz.prog 150 #[.string cl,.agg #[.string m.name,.bool m.static,.slice AP m.params.length cP,.string m.result],.agg #[.string f.cls,.string f.name,.bool f.static,.int .i64 f.nparams,.slice AV f.vars.length cV,.string f.result,.slice AC f.code.length cC]] w fun e w'=>e = .returned (.bool (belB cl m f))∧Below w.heap.size w w':=by
 obtain⟨r,HR⟩:∃r,Hid (r=belB cl m f):=⟨_,v9h rfl⟩
 rw[←HR.out];have HR2:Hid (r=(yo cl m f&&decide (f.nparams=(parL cl m).length)&&decide ((parL cl m).length≤f.vars.length)&&(List.range (parL cl m).length).all (qx (parL cl m) f)&&(m.static||decide (((f.vars[0]?).map (·.name.toList))=some qD)))):=by show r=_;rw[HR.out,aa9]
 clear HR
 go_enter Tryz.func150,Tryz.ntmps150
 go_upto_region 1 with fail
 generalize hW:World.alloc _ _=W1 at *
 have hb1:Below w.heap.size w W1:=by rw[←hW];exact(by repeat(first|assumption|exact v9r|apply zc|apply zd|apply zg|apply ze|apply zi))
 have bm:Box W1 w.heap.size [.string m.name,.bool m.static,.slice AP m.params.length cP,.string m.result] 36:=by rw[←hW];exact(by repeat(first|(refine Box.at ?_;(simp;done))|apply Box.drew|apply Box.alloc|assumption))
 have bf:Box W1 (w.heap.size+1) [.string f.cls,.string f.name,.bool f.static,.int .i64 f.nparams,.slice AV f.vars.length cV,.string f.result,.slice AC f.code.length cC] 42:=by rw[←hW];exact(by repeat(first|(refine Box.at ?_;(simp;done))|apply Box.drew|apply Box.alloc|assumption))
 clear hW;have m0:=bm.cell 0 rfl;have m1:=bm.cell 1 rfl;have m2:=bm.cell 2 rfl;have m3:=bm.cell 3 rfl;have ml:=bm.lt;have f0:=bf.cell 0 rfl;have f1:=bf.cell 1 rfl;have f2:=bf.cell 2 rfl;have f3:=bf.cell 3 rfl;have f4:=bf.cell 4 rfl;have f5:=bf.cell 5 rfl;have fl:=bf.lt
 go_cut [34] (fun s wx=>s = .bool (!yo cl m f)∧W1=wx)
 case first=>
  have hne:∀a b:List UInt8,(a==b)=true→(a != b)=false:=fun a b h=>by rw[bne,h];rfl
  have hne2:∀a b:List UInt8,(a==b)=false→(a != b)=true:=fun a b h=>by rw[bne,h];rfl
  have hne3:∀a b:Bool,(a==b)=true→(a != b)=false:=fun a b h=>by rw[bne,h];rfl
  have hne4:∀a b:Bool,(a==b)=false→(a != b)=true:=fun a b h=>by rw[bne,h];rfl
  cases h1:(f.cls.toList==cl.toList) with
  |false=>
   have HB:Hid (yo cl m f=false):=by show _=_;unfold yo;rw[h1];rfl
   have h1':=hne2 _ _ h1;clear hne hne2 hne3 hne4
   go_wp2_with fail
   go_meet
   exact⟨by rw[HB.out];rfl,rfl⟩
  |true=>
  have h1':=hne _ _ h1
  cases h2:(f.name.toList==m.name.toList) with
  |false=>
   have HB:Hid (yo cl m f=false):=by show _=_;unfold yo;rw[h1,h2];rfl
   have h2':=hne2 _ _ h2;clear hne hne2 hne3 hne4
   go_wp2_with fail
   go_meet
   exact⟨by rw[HB.out];rfl,rfl⟩
  |true=>
  have h2':=hne _ _ h2
  cases h3:(f.static==m.static) with
  |false=>
   have HB:Hid (yo cl m f=false):=by show _=_;unfold yo;rw[h1,h2,h3];rfl
   have h3':=hne4 _ _ h3;clear hne hne2 hne3 hne4
   go_wp2_with fail
   go_meet
   exact⟨by rw[HB.out];rfl,rfl⟩
  |true=>
  have h3':=hne3 _ _ h3
  cases h4:(f.result.toList==m.result.toList) with
  |false=>
   have HB:Hid (yo cl m f=false):=by show _=_;unfold yo;rw[h1,h2,h3,h4];rfl
   have h4':=hne2 _ _ h4;clear hne hne2 hne3 hne4
   go_wp2_with fail
   go_meet
   exact⟨by rw[HB.out];rfl,rfl⟩
  |true=>
  have h4':=hne _ _ h4;have HB:Hid (yo cl m f=true):=by show _=_;unfold yo;rw[h1,h2,h3,h4];rfl
  clear hne hne2 hne3 hne4
  go_wp2_with fail
  go_meet
  exact⟨by rw[HB.out];rfl,rfl⟩
 case rest=>
 obtain⟨rfl,rfl⟩:=hcut
 cases hbe:yo cl m f with
 |false=>
  have HB:Hid (r=false):=by show r=false;rw[HR2.out,hbe];rfl
  go_wp2_with fail
  go_ret
  exact⟨by rw[HB.out];rfl,hb1⟩
 |true=>
 have HR3:Hid (r=(decide (f.nparams=(parL cl m).length)&&decide ((parL cl m).length≤f.vars.length)&&(List.range (parL cl m).length).all (qx (parL cl m) f)&&(m.static||decide (((f.vars[0]?).map (·.name.toList))=some qD)))):=by show r=_;rw[HR2.out,hbe];rfl
 clear HR2 hbe;clear f0 f1 f2 f3 f4 f5 fl
 cases hst:m.static with
 |true=>
  have HST:=v9h hst;have HPL:Hid (parL cl m=m.params):=by show _=_;unfold parL;rw[hst];rfl
  have HPB:Hid ((parL cl m).length≤17592186044416):=by show _≤_;rw[HPL.out];omega
  obtain⟨v7,W7,hrun,ho7',hb7,hg7,hz7⟩:=qX (L:=Lay.str) (A:=AP) (c:=cP) aam yA 34 (Own.nil (base:=W1.heap.size) (w:=W1)) (fun x vs h=>h) rfl (hp.mono hb1) (by simp[maxLen];omega) (by simp;omega) (Nat.le_refl _);have ho7:Own yd 1 W1.heap.size 9 W7 v7 (parL cl m):=by rw[HPL.out];exact ho7'
  have hbw7:=za hb1 hb7;have bf7:=bf.mono hb7;have bm7:=bm.mono hb7;clear ho7' hg7 hz7;rw[hst] at m1
  go_upto_region 7 with(at_builtin;refine yJ rfl (.tmp 42) (.tmp 44) 34 rfl rfl rfl hrun ?_)
  clear m0 m1 m2 m3 ml hrun bm bf hst;have HPP:=v9h (@adQ cl m);clear HPL;generalize parL cl m=P at *
  obtain⟨A7,c7,rfl,hc7,hs7⟩:=Own.sl (L:=Lay.str) ho7 rfl fun _=>rfl
  have hPl:P.length≤17592186044416:=HPB.out;clear ho7;have f3:=bf7.cell 3 rfl;have f4:=bf7.cell 4 rfl;have fl:=bf7.lt
  cases hn:(f.nparams != (P.length:Int)) with
  |true=>
   have HB:Hid (r=false):=by
    show r=false;rw[HR3.out,decide_eq_false (fun e=>by rw[e] at hn;simp at hn)];rfl
   go_wp2_with fail
   go_ret
   exact⟨by rw[HB.out];rfl,hbw7⟩
  |false=>
  have HN:=v9h (show f.nparams=(P.length:Int) by simpa using hn)
  by_cases hlv:f.vars.length<P.length
  ·have HB:Hid (r=false):=by
    show r=false;rw[HR3.out,decide_eq_false (show ¬P.length≤f.vars.length by omega)];simp
   go_wp2_with fail
   go_ret
   exact⟨by rw[HB.out];rfl,hbw7⟩
  have HR4:Hid (r=((List.range P.length).all (qx P f)&&(m.static||decide (((f.vars[0]?).map (·.name.toList))=some qD)))):=by
   show r=_;rw[HR3.out,decide_eq_true HN.out,decide_eq_true (by omega)];rfl
  go_wp2_with fail
  clear f3 f4 fl hn HR3 HN
  go_loopw [8,9,61] (fun _ _ i wr=>∃k:Nat,k≤P.length∧i = .int .i64 k∧Hid (∀i,i<k→qx P f i=true)∧Below W7.heap.size W7 wr) (fun _ _ i _=>P.length-(intOf i).toNat)
  case atStart=>exact⟨0,Nat.zero_le _,rfl,fun i hi=>by omega,v9r⟩
  case round=>
   obtain⟨k,hk,rfl,HK,hbw⟩:=hrel;have hbw8:=za hbw7 hbw;have bf8:=bf7.mono hbw;have bm8:=bm7.mono hbw;have f4:=bf8.cell 4 rfl;have fl:=bf8.lt
   by_cases hlt:k<P.length
   ·have hlt2:k<f.vars.length:=by omega
    obtain⟨bP,oP,rfl,hbP,a0⟩:=(hs7.mono hbw).str_at hlt;obtain⟨bV,oV,rfl,hbV,v0,v1⟩:=(hv.mono hbw8).fld_at hlt2;have HPO:=v9h (adP hlt hlt2)
    cases hq:(f.vars[k].typ.toList==P[k].toList) with
    |false=>
     have hq':(f.vars[k].typ.toList != P[k].toList)=true:=by rw[bne,hq];rfl
     have HB:Hid (r=false):=by
      show r=false
      have hh:(List.range P.length).all (qx P f)=false:=by
       rw[Bool.eq_false_iff];intro h;have:=List.all_eq_true.1 h k (by simpa using hlt);rw[HPO.out,hq] at this;cases this
      rw[HR4.out,hh];rfl
     go_wp2_with fail
     go_ret
     exact⟨by rw[HB.out];rfl,hbw8⟩
    |true=>
     have hq':(f.vars[k].typ.toList != P[k].toList)=false:=by rw[bne,hq];rfl
     have HK2:Hid (∀i,i<k+1→qx P f i=true):=fun i hi=>by
      by_cases e:i=k
      ·subst e;rw[HPO.out];exact hq
      ·exact HK.out i (by omega)
     clear HPO
     go_wp2_with fail
     go_roundw
     case rel=>exact⟨k+1,by omega,by go_num,HK2,hbw⟩
     case measure=>simp[intOf];omega
   ·have HR5:Hid (r=(m.static||decide (((f.vars[0]?).map (·.name.toList))=some qD))):=by
     show r=_;rw[HR4.out,show(List.range P.length).all (qx P f)=true from List.all_eq_true.2 fun i hi=>HK.out i (by have:=List.mem_range.1 hi;omega)];rfl
    clear HR4 HK;have HB:Hid (r=true):=by show r=true;rw[HR5.out,HST.out];rfl
    have m1:=bm8.cell 1 rfl;have ml:=bm8.lt;have hst':=HST.out
    go_wp2_with fail
    go_ret
    exact⟨by rw[HB.out];rfl,hbw8⟩
 |false=>
  have HST:=v9h hst;have HPL:Hid (parL cl m=[cl]++m.params):=by show _=_;unfold parL;rw[hst];rfl
  have HPB:Hid ((parL cl m).length≤17592186044416):=by show _≤_;rw[HPL.out];simp;omega
  have bz:=Box.new W1 [.string cl] 9;obtain⟨v6,W6,hrun6,ho6,hb6,hg6,hz6⟩:=ag7 aam yA 34 (Own.nil (base:=W1.heap.size) (w:=W1.alloc (.cells #[.string cl] 9))) cl W1.heap.size 1 (fun j u hj=>bz.cell j hj) (by simp[maxLen]) (by simp) (by simp);have hb6':Below W1.heap.size W1 W6:=(zc (v9r)).trans hb6;have bm6:=bm.mono hb6';obtain⟨v7,W7,hrun,ho7',hb7,hg7,hz7⟩:=qX (L:=Lay.str) (A:=AP) (c:=cP) aam yA 34 ho6 (fun x vs h=>h) rfl (hp.mono (za hb1 hb6')) (by simp[maxLen];omega) (by simp;omega) hb6'.size;have ho7:Own yd 1 W1.heap.size 9 W7 v7 (parL cl m):=by rw[HPL.out];exact ho7'
  have hb17:Below W1.heap.size W1 W7:=hb6'.trans hb7;have hbw7:=za hb1 hb17;have bf7:=bf.mono hb17;have bm7:=bm.mono hb17;have n1:=bm6.cell 1 rfl;have n2:=bm6.cell 2 rfl;have nl:=bm6.lt;clear ho7' hg7 hz7 bz hg6 hz6;rw[hst] at m1 n1
  go_upto_region 7 with(first|(at_builtin;refine yJ rfl (.tmp 38) (.tmp 40) 34 rfl rfl rfl hrun6 ?_)|(at_builtin;refine yJ rfl (.tmp 42) (.tmp 44) 34 rfl rfl rfl hrun ?_))
  clear m0 m1 m2 m3 ml n1 n2 nl hrun hrun6 ho6 bm6 bm bf hst hb7 hb6 hb6' hb17;have HPP:=v9h (@adQ cl m);clear HPL;generalize parL cl m=P at *
  obtain⟨A7,c7,rfl,hc7,hs7⟩:=Own.sl (L:=Lay.str) ho7 rfl fun _=>rfl
  have hPl:P.length≤17592186044416:=HPB.out;clear ho7;have f3:=bf7.cell 3 rfl;have f4:=bf7.cell 4 rfl;have fl:=bf7.lt
  cases hn:(f.nparams != (P.length:Int)) with
  |true=>
   have HB:Hid (r=false):=by
    show r=false;rw[HR3.out,decide_eq_false (fun e=>by rw[e] at hn;simp at hn)];rfl
   go_wp2_with fail
   go_ret
   exact⟨by rw[HB.out];rfl,hbw7⟩
  |false=>
  have HN:=v9h (show f.nparams=(P.length:Int) by simpa using hn)
  by_cases hlv:f.vars.length<P.length
  ·have HB:Hid (r=false):=by
    show r=false;rw[HR3.out,decide_eq_false (show ¬P.length≤f.vars.length by omega)];simp
   go_wp2_with fail
   go_ret
   exact⟨by rw[HB.out];rfl,hbw7⟩
  have HR4:Hid (r=((List.range P.length).all (qx P f)&&(m.static||decide (((f.vars[0]?).map (·.name.toList))=some qD)))):=by
   show r=_;rw[HR3.out,decide_eq_true HN.out,decide_eq_true (by omega)];rfl
  go_wp2_with fail
  clear f3 f4 fl hn HR3 HN
  go_loopw [8,9,61] (fun _ _ i wr=>∃k:Nat,k≤P.length∧i = .int .i64 k∧Hid (∀i,i<k→qx P f i=true)∧Below W7.heap.size W7 wr) (fun _ _ i _=>P.length-(intOf i).toNat)
  case atStart=>exact⟨0,Nat.zero_le _,rfl,fun i hi=>by omega,v9r⟩
  case round=>
   obtain⟨k,hk,rfl,HK,hbw⟩:=hrel;have hbw8:=za hbw7 hbw;have bf8:=bf7.mono hbw;have bm8:=bm7.mono hbw;have f4:=bf8.cell 4 rfl;have fl:=bf8.lt
   by_cases hlt:k<P.length
   ·have hlt2:k<f.vars.length:=by omega
    obtain⟨bP,oP,rfl,hbP,a0⟩:=(hs7.mono hbw).str_at hlt;obtain⟨bV,oV,rfl,hbV,v0,v1⟩:=(hv.mono hbw8).fld_at hlt2;have HPO:=v9h (adP hlt hlt2)
    cases hq:(f.vars[k].typ.toList==P[k].toList) with
    |false=>
     have hq':(f.vars[k].typ.toList != P[k].toList)=true:=by rw[bne,hq];rfl
     have HB:Hid (r=false):=by
      show r=false
      have hh:(List.range P.length).all (qx P f)=false:=by
       rw[Bool.eq_false_iff];intro h;have:=List.all_eq_true.1 h k (by simpa using hlt);rw[HPO.out,hq] at this;cases this
      rw[HR4.out,hh];rfl
     go_wp2_with fail
     go_ret
     exact⟨by rw[HB.out];rfl,hbw8⟩
    |true=>
     have hq':(f.vars[k].typ.toList != P[k].toList)=false:=by rw[bne,hq];rfl
     have HK2:Hid (∀i,i<k+1→qx P f i=true):=fun i hi=>by
      by_cases e:i=k
      ·subst e;rw[HPO.out];exact hq
      ·exact HK.out i (by omega)
     clear HPO
     go_wp2_with fail
     go_roundw
     case rel=>exact⟨k+1,by omega,by go_num,HK2,hbw⟩
     case measure=>simp[intOf];omega
   ·have HR5:Hid (r=(m.static||decide (((f.vars[0]?).map (·.name.toList))=some qD))):=by
     show r=_;rw[HR4.out,show(List.range P.length).all (qx P f)=true from List.all_eq_true.2 fun i hi=>HK.out i (by have:=List.mem_range.1 hi;omega)];rfl
    clear HR4 HK;have h0P:=HPP.out HST.out;have h0V:0<f.vars.length:=by omega
    obtain⟨bV,oV,rfl,hbV,v0,v1⟩:=(hv.mono hbw8).fld_at h0V;simp only[Nat.zero_mul,Nat.add_zero] at v0 v1
    have HR6:Hid (r=(f.vars[0].name.toList==[116,104,105,115])):=by
     show r=_;rw[HR5.out,HST.out,List.getElem?_eq_getElem h0V];show(false||decide (some f.vars[0].name.toList=some qD))=_;unfold qD
     cases hh:(f.vars[0].name.toList==[116,104,105,115])<;>simp_all
    have m1:=bm8.cell 1 rfl;have ml:=bm8.lt;have hst':=HST.out
    cases hq:(f.vars[0].name.toList==[116,104,105,115]) with
    |true=>
     have HB:Hid (r=true):=by show r=true;rw[HR6.out,hq]
     go_wp2_with fail
     go_ret
     exact⟨by rw[HB.out];rfl,hbw8⟩
    |false=>
     have HB:Hid (r=false):=by show r=false;rw[HR6.out,hq]
     go_wp2_with fail
     go_ret
     exact⟨by rw[HB.out];rfl,hbw8⟩
def vrB1(st:Bool)(i:Nat)(v:Fld):Bool:= !qW v.name&&(!(v.name.toList==[116,104,105,115])||(decide (0<i)||st))
def vrB2(cs:List Cls)(v:Fld):Bool:= !(v.typ.toList==[105,110,116])&&(!(v.typ.toList==[110,117,108,108])&&decide (fnd cs v.typ<0))
theorem ab2(cs:List Cls)(st:Bool)(i:Nat)(v:Fld):vrE cs st i v=if vrB1 st i v then 5 else if vrB2 cs v then 8 else 0:=by
 unfold vrE vrB1 vrB2 qD wInt jW;simp only[Bool.or_assoc,Bool.and_assoc]
def xL(cs:List Cls)(f:Fun):Int:=if frst (vrF cs f) f.vars.length≠0 then frst (vrF cs f) f.vars.length else if f.code.length=0 then 1 else 0
theorem agr{cs:List Cls}{cl:ByteArray}{m:Sg}{f:Fun}(h:belB cl m f=true)(h1:¬256<f.vars.length)(h2:¬1024<f.code.length):funE cs cl m f=xL cs f:=by
 unfold funE xL;rw[h,if_neg (by simp),if_neg (by omega)]
theorem acE{cs:List Cls}{f:Fun}{k:Nat}{e:Int}(h:frst (vrF cs f) k=0)(hk:k<f.vars.length)(he:vrF cs f k=e)(h0:e≠0):xL cs f=e:=by
 subst he;unfold xL;rw[jk h h0 hk,if_pos h0]
theorem ags{cs:List Cls}{f:Fun}(h:frst (vrF cs f) f.vars.length=0):xL cs f=if f.code.length=0 then 1 else 0:=by
 unfold xL;rw[h,if_neg (by simp)]
theorem adb(cs:List Cls)(cl:ByteArray)(m:Sg)(f:Fun)(AH AP AV AC:Option Addr)(cH cP cV cC:Nat)(w:World)(H:Hid (FnH w cs f AH AV AC cH))(hp:Sl Lay.str w AP m.params)(hpl:m.params.length≤1000000) :
  Calls Tryz.prog 85 #[.agg #[.slice AH cs.length cH],.string cl,.agg #[.string m.name,.bool m.static,.slice AP m.params.length cP,.string m.result],.agg #[.string f.cls,.string f.name,.bool f.static,.int .i64 f.nparams,.slice AV f.vars.length cV,.string f.result,.slice AC f.code.length cC]] w fun e w'=>e = .returned (.int .i64 (funE cs cl m f))∧Below w.heap.size w w':=by
 obtain⟨r,HR⟩:∃r,Hid (r=funE cs cl m f):=⟨_,v9h rfl⟩
 rw[←HR.out]
 go_enter Tryz.func85,Tryz.ntmps85
 go_upto_region 1 with fail
 generalize hW:World.alloc _ _=W1 at *
 have hb1:Below w.heap.size w W1:=by rw[←hW];exact(by repeat(first|assumption|exact v9r|apply zc|apply zd|apply zg|apply ze|apply zi))
 have bh:Box W1 w.heap.size [.slice AH cs.length cH] 29:=by rw[←hW];exact(by repeat(first|(refine Box.at ?_;(simp;done))|apply Box.drew|apply Box.alloc|assumption))
 have bm:Box W1 (w.heap.size+1) [.string m.name,.bool m.static,.slice AP m.params.length cP,.string m.result] 36:=by rw[←hW];exact(by repeat(first|(refine Box.at ?_;(simp;done))|apply Box.drew|apply Box.alloc|assumption))
 have bf:Box W1 (w.heap.size+2) [.string f.cls,.string f.name,.bool f.static,.int .i64 f.nparams,.slice AV f.vars.length cV,.string f.result,.slice AC f.code.length cC] 42:=by rw[←hW];exact(by repeat(first|(refine Box.at ?_;(simp;done))|apply Box.drew|apply Box.alloc|assumption))
 clear hW;have m0:=bm.cell 0 rfl;have m1:=bm.cell 1 rfl;have m2:=bm.cell 2 rfl;have m3:=bm.cell 3 rfl;have ml:=bm.lt;have f0:=bf.cell 0 rfl;have f1:=bf.cell 1 rfl;have f2:=bf.cell 2 rfl;have f3:=bf.cell 3 rfl;have f4:=bf.cell 4 rfl;have f5:=bf.cell 5 rfl;have f6:=bf.cell 6 rfl;have fl:=bf.lt
 go_wp2_with fail
 refine(aeH cl m f AP AV AC cP cV cC _ (hp.mono hb1) hpl (H.out.hv.mono hb1) H.out.hvl).mono ?_;rintro e w2 ⟨rfl,hq2⟩;have hb2:=za hb1 hq2;have bh2:=bh.mono hq2;have bf2:=bf.mono hq2;clear m0 m1 m2 m3 ml f0 f1 f2 f3 f4 f5 f6 fl bh bf bm hq2
 cases hbe:belB cl m f with
 |false=>
  have HB:Hid (r=20):=by show r=20;rw[HR.out];unfold funE;rw[hbe];rfl
  go_wp2_with fail
  go_ret
  exact⟨by rw[HB.out];rfl,hb2⟩
 |true=>
 have f2:=bf2.cell 2 rfl;have f4:=bf2.cell 4 rfl;have f6:=bf2.cell 6 rfl;have fl:=bf2.lt
 by_cases hg1:256<f.vars.length
 ·have HB:Hid (r=3):=by show r=3;rw[HR.out];unfold funE;rw[hbe,if_neg (by simp),if_pos (Or.inl hg1)]
  go_wp2_with fail
  go_ret
  exact⟨by rw[HB.out];rfl,hb2⟩
 by_cases hg2:1024<f.code.length
 ·have HB:Hid (r=3):=by show r=3;rw[HR.out];unfold funE;rw[hbe,if_neg (by simp),if_pos (Or.inr hg2)]
  go_wp2_with fail
  go_ret
  exact⟨by rw[HB.out];rfl,hb2⟩
 have HR2:Hid (r=xL cs f):=by show r=_;rw[HR.out,agr hbe hg1 hg2]
 clear HR hbe
 go_wp2_with fail
 clear f2 f4 f6 fl
 go_loopw [9,10,29] (fun _ _ i wr=>∃k:Nat,k≤f.vars.length∧i = .int .i64 k∧Hid (frst (vrF cs f) k=0)∧Below w2.heap.size w2 wr) (fun _ _ i _=>f.vars.length-(intOf i).toNat)
 case atStart=>exact⟨0,Nat.zero_le _,rfl,v9h rfl,v9r⟩
 case round=>
  obtain⟨k,hk,rfl,HK,hbw⟩:=hrel;have hbw3:=za hb2 hbw;have bf3:=bf2.mono hbw;have bh3:=bh2.mono hbw
  by_cases hlt:k<f.vars.length
  ·have hvo:=H.out.hvo _ (List.getElem_mem hlt)
   have HF:Hid (vrF cs f k=if vrB1 f.static k f.vars[k] then 5 else if vrB2 cs f.vars[k] then 8 else 0):=by show _=_;rw[adA hlt,ab2]
   obtain⟨bV,oV,hAV,hbV,v0,v1⟩:=(H.out.hv.mono hbw3).fld_at hlt;subst hAV;generalize f.vars[k]=v at *
   go_upto_region 8 with fail
   generalize hW:World.alloc _ _=W4 at *
   have h34:Below wr.heap.size wr W4:=by rw[←hW];exact zc (v9r)
   have bv:Box W4 wr.heap.size [.string v.name,.string v.typ] 61:=by rw[←hW];exact(by repeat(first|(refine Box.at ?_;(simp;done))|apply Box.drew|apply Box.alloc|assumption))
   clear hW v0 v1 hbV;have bf4:=bf3.mono h34;have bh4:=bh3.mono h34;have hbw4:=za hbw3 h34;have v0:=bv.cell 0 rfl;have vl:=bv.lt;have f2:=bf4.cell 2 rfl;have fl:=bf4.lt
   go_cut [50] (fun s wx=>s = .bool (vrB1 f.static k v)∧W4=wx)
   case first=>
    cases hn:qW v.name with
    |true=>
     have HB:Hid (vrB1 f.static k v=false):=by show _=_;unfold vrB1;rw[hn];rfl
     go_wp2_with fail
     refine(qP v.name _ hvo.1 (H.out.hkw.mono hbw4)).mono ?_;rintro e w5 ⟨rfl,rfl⟩;rw[hn]
     go_wp2_with fail
     go_meet
     exact⟨by rw[HB.out],rfl⟩
    |false=>
    cases ht:(v.name.toList==[116,104,105,115]) with
    |false=>
     have ht':(v.name.toList != [116,104,105,115])=true:=by rw[bne,ht];rfl
     have HB:Hid (vrB1 f.static k v=true):=by show _=_;unfold vrB1;rw[hn,ht];rfl
     go_wp2_with fail
     refine(qP v.name _ hvo.1 (H.out.hkw.mono hbw4)).mono ?_;rintro e w5 ⟨rfl,rfl⟩;rw[hn]
     go_wp2_with fail
     go_meet
     exact⟨by rw[HB.out],rfl⟩
    |true=>
    have ht':(v.name.toList != [116,104,105,115])=false:=by rw[bne,ht];rfl
    by_cases hk0:0<k
    ·have HB:Hid (vrB1 f.static k v=true):=by show _=_;unfold vrB1;rw[hn,ht,decide_eq_true hk0];rfl
     go_wp2_with fail
     refine(qP v.name _ hvo.1 (H.out.hkw.mono hbw4)).mono ?_;rintro e w5 ⟨rfl,rfl⟩;rw[hn]
     go_wp2_with fail
     go_meet
     exact⟨by rw[HB.out],rfl⟩
    ·have HB:Hid (vrB1 f.static k v=f.static):=by show _=_;unfold vrB1;rw[hn,ht,decide_eq_false hk0];rfl
     go_wp2_with fail
     refine(qP v.name _ hvo.1 (H.out.hkw.mono hbw4)).mono ?_;rintro e w5 ⟨rfl,rfl⟩;rw[hn]
     go_wp2_with fail
     go_meet
     exact⟨by rw[HB.out],rfl⟩
   case rest=>
   obtain⟨rfl,rfl⟩:=hcut;clear v0 f2 fl
   cases hB1:vrB1 f.static k v with
   |true=>
    have HB:Hid (r=5):=by show r=5;rw[HR2.out,acE (e:=5) HK.out hlt (by rw[HF.out,hB1];rfl) (by decide)]
    go_wp2_with fail
    go_ret
    exact⟨by rw[HB.out];rfl,hbw4⟩
   |false=>
   have HF2:Hid (vrF cs f k=if vrB2 cs v then 8 else 0):=by show _=_;rw[HF.out,hB1];rfl
   clear HF hB1;have v1:=bv.cell 1 rfl;have h0:=bh4.cell 0 rfl;have hlb:=bh4.lt
   go_upto_region 10 with fail
   go_cut [65] (fun s wx=>s = .bool (vrB2 cs v)∧Below W4.heap.size W4 wx)
   case first=>
    cases ht:(v.typ.toList==[105,110,116]) with
    |true=>
     have ht':(v.typ.toList != [105,110,116])=false:=by rw[bne,ht];rfl
     have HB:Hid (vrB2 cs v=false):=by show _=_;unfold vrB2;rw[ht];rfl
     go_wp2_with fail
     go_meet
     exact⟨by rw[HB.out],v9r⟩
    |false=>
    have ht':(v.typ.toList != [105,110,116])=true:=by rw[bne,ht];rfl
    cases hu:(v.typ.toList==[110,117,108,108]) with
    |true=>
     have hu':(v.typ.toList != [110,117,108,108])=false:=by rw[bne,hu];rfl
     have HB:Hid (vrB2 cs v=false):=by show _=_;unfold vrB2;rw[ht,hu];rfl
     go_wp2_with fail
     go_meet
     exact⟨by rw[HB.out],v9r⟩
    |false=>
    have hu':(v.typ.toList != [110,117,108,108])=true:=by rw[bne,hu];rfl
    have HB:Hid (vrB2 cs v=decide (fnd cs v.typ<0)):=by show _=_;unfold vrB2;rw[ht,hu];rfl
    go_wp2_with fail
    refine(xb AH cH cs v.typ _ (by have:=H.out.hl;omega) (H.out.hs.mono hbw4)).mono ?_;rintro e w5 ⟨rfl,hq5⟩
    go_wp2_with fail
    go_meet
    exact⟨by rw[HB.out],hq5⟩
   case rest=>
   obtain⟨rfl,hq5⟩:=hcut;have hbw5:=za hbw4 hq5;have hbx5:=za hbw (za h34 hq5);clear v1 h0 hlb vl
   cases hB2:vrB2 cs v with
   |true=>
    have HB:Hid (r=8):=by show r=8;rw[HR2.out,acE (e:=8) HK.out hlt (by rw[HF2.out,hB2];rfl) (by decide)]
    go_wp2_with fail
    go_ret
    exact⟨by rw[HB.out];rfl,hbw5⟩
   |false=>
   have HK2:Hid (frst (vrF cs f) (k+1)=0):=yz HK.out (by rw[HF2.out,hB2];rfl);clear HF2
   go_wp2_with fail
   go_roundw
   case rel=>exact⟨k+1,by omega,by go_num,HK2,hbx5⟩
   case measure=>simp[intOf];omega
  ·have HR3:Hid (r=if f.code.length=0 then 1 else 0):=by
    show r=_;have hk2:k=f.vars.length:=by omega
    have:=HK.out;rw[hk2] at this;rw[HR2.out,ags this]
   have f6:=bf3.cell 6 rfl;have fl:=bf3.lt
   by_cases hc0:f.code.length=0
   ·have HB:Hid (r=1):=by show r=1;rw[HR3.out,if_pos hc0]
    have hq:((f.code.length:Int)==0)=true:=by rw[hc0];rfl
    clear hc0
    go_wp2_with fail
    go_ret
    exact⟨by rw[HB.out];rfl,hbw3⟩
   ·have HB:Hid (r=0):=by show r=0;rw[HR3.out,if_neg hc0]
    have hq:((f.code.length:Int)==0)=false:=by rw[beq_eq_false_iff_ne];omega
    clear hc0
    go_wp2_with fail
    go_ret
    exact⟨by rw[HB.out];rfl,hbw3⟩
structure afG(f:Fun):Prop where
 hvl:f.vars.length≤8796093022208
 hvo:∀v∈f.vars,zG v.name∧zG v.typ
 hcl:f.code.length≤8796093022208
 hio:∀x∈f.code,zG x.cls∧x.args.length≤17592186044416
 hxr:zG f.result
structure UnH(w:World)(u:Unt)(A0 A1:Option Addr)(c0:Nat):Prop where
 hl:u.classes.length≤8796093022208
 hcc:u.classes.length≤c0
 hs:Sl Lay.cls w A0 u.classes
 hok:yQ u.classes
 hlk:yp u.classes
 hf:Sl Lay.fun w A1 u.funcs
 hfl:u.funcs.length≤8796093022208
 hfo:∀f∈u.funcs,afG f
 hfx:yw w
 hkw:KwX w
theorem UnH.mono{w w':World}{u:Unt}{A0 A1:Option Addr}{c0:Nat}(H:UnH w u A0 A1 c0)(hb:Below w.heap.size w w'):UnH w' u A0 A1 c0:=
 ⟨H.hl,H.hcc,H.hs.mono hb,H.hok,H.hlk,H.hf.mono hb,H.hfl,H.hfo,H.hfx.mono hb,H.hkw.mono hb⟩
theorem aan{f:Nat→Int}{n:Nat}(h:jB f n=none):∀j,j<n→f j=0:=by
 unfold jB at h;rw[List.find?_range_eq_none] at h;exact fun j hj=>by simpa using h j hj
theorem qp{cs:List Cls}(h:(yn cs).2=0):cs.length≤64∧∀i (hi:i<cs.length),clsE cs i cs[i]=0:=by
 unfold yn at h
 split at h
 ·cases h
 ·rename_i h64
  split at h
  ·rename_i k hk
   have:=List.find?_some (by unfold jB at hk;exact hk);simp only[decide_eq_true_eq] at this;exact absurd h this
  ·rename_i hn
   exact⟨by omega,fun i hi=>by rw[←xt hi];exact aan hn i hi⟩
theorem qQ{cs:List Cls}{i:Nat}{c:Cls}(h:clsE cs i c=0):(c.fields.length≤16∧c.methods.length≤16)∧zC c.name=true∧fnd cs c.name=i∧(c.super.toList.isEmpty=false→0≤fnd cs c.super)∧(chR cs i).2=false∧(∀k (hk:k<c.fields.length),fldE cs c.fields (chR cs i).1.tail k c.fields[k]=0)∧∀k (hk:k<c.methods.length),mthE cs c.methods (chR cs i).1.tail k c.methods[k]=0:=by
 unfold clsE at h
 split at h
 ·cases h
 rename_i h1
 split at h
 ·cases h
 rename_i h2
 split at h
 ·cases h
 rename_i h3
 split at h
 ·cases h
 rename_i h4
 split at h
 ·cases h
 rename_i h5
 split at h
 ·rename_i h6;exact absurd h h6
 rename_i h6
 refine⟨by omega,by simpa using h1,by simpa using h2,fun he=>Int.not_lt.1 fun hq=>h3 ⟨he,hq⟩,by simpa using h4,fun k hk=>?_,fun k hk=>?_⟩
 ·rw[←qZ hk];exact kU (by simpa using h6) k hk
 ·rw[←jM hk];exact kU h k hk
theorem jt{cs:List Cls}{ms:List Sg}{T:List Int}{k:Nat}{m:Sg}(h:mthE cs ms T k m=0):zC m.name=true∧¬idxI (isSg m.name) ms<k∧m.params.length≤6∧m.params.all (isTy cs)=true∧(m.result.toList.isEmpty||isTy cs m.result)=true∧yq cs T m=false:=by
 unfold mthE at h
 split at h
 ·cases h
 rename_i h1
 split at h
 ·cases h
 rename_i h2
 split at h
 ·cases h
 rename_i h3
 split at h
 ·cases h
 rename_i h4
 split at h
 ·cases h
 rename_i h5
 split at h
 ·cases h
 rename_i h6
 exact⟨by simpa using h1,h2,by omega,by simpa using h4,by revert h5;cases (m.result.toList.isEmpty||isTy cs m.result)<;>simp,by simpa using h6⟩
theorem xc{cs:List Cls}{k:Nat}(hk:k<cs.length):mthN (cs.take (k+1))=mthN (cs.take k)+cs[k].methods.length:=by
 induction cs generalizing k with
 |nil=>simp at hk
 |cons c r ih=>
  cases k with
  |zero=>simp[mthN]
  |succ k=>
   have:=ih (k:=k) (by simpa using hk);rw[List.take_succ_cons,List.take_succ_cons,mthN,mthN,this,List.getElem_cons_succ]
   omega
def kp(u:Unt):Int:=if 256<u.funcs.length then 3 else if u.funcs.length≠mthN u.classes then 20 else if u.main<0∨(u.funcs.length:Int)≤u.main then 14 else
 match u.funcs[u.main.toNat]? with
 |some f=>if xa f then 0 else 14
 |none=>14
theorem acF{u:Unt}(h:(yn u.classes).2=0):uniE u=kp u:=by
 unfold uniE kp;rw[if_neg (by simpa using h)];rfl
def qm(f:Fun):Bool:=f.cls.toList==[77,97,105,110]&&(f.name.toList==[109,97,105,110]&&(f.static&&((f.nparams==0)&&f.result.toList.isEmpty)))
theorem acG(f:Fun):xa f=qm f:=by
 unfold xa qm agn ago;rw[yC];simp only[Bool.and_assoc]
theorem adc(u:Unt)(A0 A1:Option Addr)(c0 c1:Nat)(w:World)(H:Hid (UnH w u A0 A1 c0)) :
  Calls Tryz.prog 84 #[.agg #[.slice A0 u.classes.length c0,.slice A1 u.funcs.length c1,.int .i64 u.main]] w fun e w'=>e = .returned (.int .i64 (uniE u))∧Below w.heap.size w w':=by
 obtain⟨r,HR⟩:∃r,Hid (r=uniE u):=⟨_,v9h rfl⟩
 rw[←HR.out]
 go_enter Tryz.func84,Tryz.ntmps84
 go_upto_region 1 with fail
 generalize hW:World.alloc _ _=W1 at *
 have hb1:Below w.heap.size w W1:=by rw[←hW];exact(by repeat(first|assumption|exact v9r|apply zc|apply zd|apply zg|apply ze|apply zi))
 have bu:Box W1 w.heap.size [.slice A0 u.classes.length c0,.slice A1 u.funcs.length c1,.int .i64 u.main] 32:=by rw[←hW];exact(by repeat(first|(refine Box.at ?_;(simp;done))|apply Box.drew|apply Box.alloc|assumption))
 clear hW;have u0:=bu.cell 0 rfl;have ul:=bu.lt
 go_wp2_with fail
 refine(ada A0 c0 u.classes _ H.out.hl H.out.hcc (H.out.hs.mono hb1) (v9h H.out.hok) (v9h H.out.hlk) (H.out.hkw.mono hb1)).mono ?_;rintro e w2 ⟨rfl,hq2⟩;have hb2:=za hb1 hq2;have bu2:=bu.mono hq2;clear u0 ul bu hq2
 by_cases he:(yn u.classes).2≠0
 ·have HB:Hid (r=(yn u.classes).2):=by show r=_;rw[HR.out];unfold uniE;rw[if_pos he]
  have he':((yn u.classes).2 != 0)=true:=by simpa using he
  clear he
  go_wp2_with fail
  go_ret
  exact⟨by rw[HB.out];rfl,hb2⟩
 replace he:(yn u.classes).2=0:=Classical.not_not.1 he;have HR2:Hid (r=kp u):=by show r=_;rw[HR.out,acF he]
 obtain⟨h64,hcls⟩:=qp he;have HCL:=v9h hcls;have he':((yn u.classes).2 != 0)=false:=by simpa using he
 clear he hcls HR;have u1:=bu2.cell 1 rfl;have ul:=bu2.lt
 by_cases hfl:256<u.funcs.length
 ·have HB:Hid (r=3):=by show r=3;rw[HR2.out];unfold kp;rw[if_pos hfl]
  go_wp2_with fail
  go_ret
  exact⟨by rw[HB.out];rfl,hb2⟩
 have u0:=bu2.cell 0 rfl
 go_wp2_with fail
 clear u0 u1 ul he'
 go_loopw [5,7,26] (fun v5 _ i wr=>∃k n:Nat,k≤u.classes.length∧i = .int .i64 k∧v5 = .int .i64 n∧n≤16*k∧Hid (n=mthN (u.classes.take k))∧Below w2.heap.size w2 wr) (fun _ _ i _=>u.classes.length-(intOf i).toNat)
 case atStart=>exact⟨0,0,Nat.zero_le _,rfl,rfl,Nat.zero_le _,v9h rfl,v9r⟩
 case round=>
  obtain⟨k,n,hk,rfl,rfl,hn,HN,hbw⟩:=hrel;have hbw3:=za hb2 hbw;have bu3:=bu2.mono hbw
  by_cases hlt:k<u.classes.length
  ·obtain⟨b0,o,A2,cc2,A3,cc3,hA,hb,d0,d1,d2,d3,hc2,hs2,hc3,hs3⟩:=(H.out.hs.mono hbw3).cls_at hlt
   subst hA;have hm16:=(qQ (HCL.out k hlt)).1.2;have HN2:Hid (n+u.classes[k].methods.length=mthN (u.classes.take (k+1))):=by show _=_;rw[xc hlt,HN.out]
   go_wp2_with fail
   go_roundw
   case rel=>exact⟨k+1,n+u.classes[k].methods.length,by omega,by go_num,by go_num,by omega,HN2,za hbw (zc (v9r))⟩
   case measure=>simp[intOf];omega
  ·have HN2:Hid (mthN u.classes=n):=by show _=n;rw[HN.out,List.take_of_length_le (by omega)]
   clear HN;have u0:=bu3.cell 0 rfl;have u1:=bu3.cell 1 rfl;have u2:=bu3.cell 2 rfl;have ul:=bu3.lt
   by_cases hfn:u.funcs.length≠n
   ·have HB:Hid (r=20):=by show r=20;rw[HR2.out];unfold kp;rw[if_neg hfl,if_pos (by rw[HN2.out];exact hfn)]
    have hq:((u.funcs.length:Int) != (n:Int))=true:=by simp;omega
    have hq2:(u.funcs.length != n)=true:=by simpa using hfn
    clear hfn
    go_wp2_with fail
    go_ret
    exact⟨by rw[HB.out];rfl,hbw3⟩
   replace hfn:u.funcs.length=n:=Classical.not_not.1 hfn
   have HR3:Hid (r=if u.main<0∨(u.funcs.length:Int)≤u.main then 14 else match u.funcs[u.main.toNat]? with
    |some f=>if xa f then 0 else 14
    |none=>14):=by show r=_;rw[HR2.out];unfold kp;rw[if_neg hfl,if_neg (by rw[HN2.out];omega)]
   have hq:((u.funcs.length:Int) != (n:Int))=false:=by simp;omega
   have hq2:(u.funcs.length != n)=false:=by simpa using hfn
   clear hfn HR2 HN2
   by_cases hm0:u.main<0
   ·have HB:Hid (r=14):=by show r=14;rw[HR3.out,if_pos (Or.inl hm0)]
    go_wp2_with fail
    go_ret
    exact⟨by rw[HB.out];rfl,hbw3⟩
   by_cases hm1:(u.funcs.length:Int)≤u.main
   ·have HB:Hid (r=14):=by show r=14;rw[HR3.out,if_pos (Or.inr hm1)]
    go_wp2_with fail
    go_ret
    exact⟨by rw[HB.out];rfl,hbw3⟩
   obtain⟨j,hj⟩:∃j:Nat,u.main=j:=⟨u.main.toNat,by omega⟩
   rw[hj] at u2 hm0 hm1;have hjl:j<u.funcs.length:=by omega
   have HR4:Hid (r=if qm u.funcs[j] then 0 else 14):=by
    show r=_;rw[HR3.out,if_neg (by omega),hj,Int.toNat_natCast,List.getElem?_eq_getElem hjl,←acG]
   obtain⟨bF,oF,A4,c4,A6,c6,hA,hbF,d0,d1,d2,d3,d4,d5,d6,hc4,hs4,hc6,hs6⟩:=(H.out.hf.mono hbw3).fun_at hjl;subst hA;clear HR3 hj;generalize u.funcs[j]=f at *
   go_upto_region 17 with fail
   generalize hW:World.alloc _ _=W4 at *
   have hbw4:Below w.heap.size w W4:=by rw[←hW];exact zc hbw3
   have bv:Box W4 wr.heap.size [.string f.cls,.string f.name,.bool f.static,.int .i64 f.nparams,.slice A4 f.vars.length c4,.string f.result,.slice A6 f.code.length c6] 42:=by rw[←hW];exact(by repeat(first|(refine Box.at ?_;(simp;done))|apply Box.drew|apply Box.alloc|assumption))
   clear hW d0 d1 d2 d3 d4 d5 d6 u0 u1 u2 ul hq hq2;have v0:=bv.cell 0 rfl;have v1:=bv.cell 1 rfl;have v2:=bv.cell 2 rfl;have v3:=bv.cell 3 rfl;have v5:=bv.cell 5 rfl;have vl:=bv.lt
   cases h1:(f.cls.toList==[77,97,105,110]) with
   |false=>
    have h1':(f.cls.toList != [77,97,105,110])=true:=by rw[bne,h1];rfl
    have HB:Hid (r=14):=by show r=14;rw[HR4.out];unfold qm;rw[h1];rfl
    go_wp2_with fail
    go_ret
    exact⟨by rw[HB.out];rfl,hbw4⟩
   |true=>
   have h1':(f.cls.toList != [77,97,105,110])=false:=by rw[bne,h1];rfl
   cases h2:(f.name.toList==[109,97,105,110]) with
   |false=>
    have h2':(f.name.toList != [109,97,105,110])=true:=by rw[bne,h2];rfl
    have HB:Hid (r=14):=by show r=14;rw[HR4.out];unfold qm;rw[h1,h2];rfl
    go_wp2_with fail
    go_ret
    exact⟨by rw[HB.out];rfl,hbw4⟩
   |true=>
   have h2':(f.name.toList != [109,97,105,110])=false:=by rw[bne,h2];rfl
   cases h3:f.static with
   |false=>
    rw[h3] at v2;have HB:Hid (r=14):=by show r=14;rw[HR4.out];unfold qm;rw[h1,h2,h3];rfl
    go_wp2_with fail
    go_ret
    exact⟨by rw[HB.out];rfl,hbw4⟩
   |true=>
   rw[h3] at v2
   cases h4:(f.nparams==0) with
   |false=>
    have h4':(f.nparams != 0)=true:=by rw[bne,h4];rfl
    have HB:Hid (r=14):=by show r=14;rw[HR4.out];unfold qm;rw[h1,h2,h3,h4];rfl
    go_wp2_with fail
    go_ret
    exact⟨by rw[HB.out];rfl,hbw4⟩
   |true=>
   have h4':(f.nparams != 0)=false:=by rw[bne,h4];rfl
   cases h5:f.result.toList.isEmpty with
   |false=>
    have h5':(f.result.toList==([]:List UInt8))=false:=by
     cases h:(f.result.toList==([]:List UInt8)) with
     |false=>rfl
     |true=>rw[beq_iff_eq] at h;rw[h] at h5;cases h5
    have h5'':(f.result.toList != ([]:List UInt8))=true:=by rw[bne,h5'];rfl
    have HB:Hid (r=14):=by show r=14;rw[HR4.out];unfold qm;rw[h1,h2,h3,h4,h5];rfl
    go_wp2_with fail
    go_ret
    exact⟨by rw[HB.out];rfl,hbw4⟩
   |true=>
    have h5':(f.result.toList==([]:List UInt8))=true:=by simpa using h5
    have h5'':(f.result.toList != ([]:List UInt8))=false:=by rw[bne,h5'];rfl
    have HB:Hid (r=0):=by show r=0;rw[HR4.out];unfold qm;rw[h1,h2,h3,h4,h5];rfl
    go_wp2_with fail
    go_ret
    exact⟨by rw[HB.out];rfl,hbw4⟩
end Go.Proofs.YtmhdambkchlilaaGreatDoor
