/- Chapter 13: natural, variableName, isCatch, the closure of inRange: what they return. Chapter 13: controlled: what it returns. -/
import Derived.Test.YtmhdambkchlilaaGreatDoorJUa
import Derived.Test.YtmhdambkchlilaaGreatDoorJLexB
namespace Go.Proofs.YtmhdambkchlilaaGreatDoor
open Go.RowKit
set_option linter.unusedVariables false
set_option maxRecDepth 100000
set_option maxHeartbeats 4000000
def digU(x:UInt8):Bool:=decide (48≤x.toNat)&&decide (x.toNat≤57)
theorem qr(s:ByteArray):(toL s).length=s.size:=by unfold toL;rw[Array.length_toList];rfl
theorem ahg(s:ByteArray)(h:0<s.size):natL (toL s)=(!((s[0]'h==48)&&decide (1<s.size))&&(toL s).all digU):=by
 have hl:=qr s;have hg:∀(i:Nat) (h1:i<(toL s).length) (h2:i<s.size),(toL s)[i]=s[i]:=fun i h1 h2=>by unfold toL;simp[ByteArray.getElem_eq_getElem_data]
 cases hs:toL s with
 |nil=>rw[hs] at hl;simp at hl;omega
 |cons c r=>
  have h0:=hg 0 (by omega) h;simp only[hs,List.getElem_cons_zero] at h0;rw[hs] at hl;simp only[List.length_cons] at hl;rw[h0]
  have:(!r.isEmpty)=decide (1<s.size):=by
   cases r with
   |nil=>simp at hl;simp;omega
   |cons a b=>simp at hl;simp;omega
  rw[←this]
  rfl
theorem aev(s:ByteArray)(w:World)(hs:s.size≤9223372036854775807):Calls Tryz.prog 223 #[.string s] w fun e w'=>e = .returned (.bool (natL (toL s)))∧w=w':=by
 obtain⟨r,HR⟩:∃r,Hid (r=natL (toL s)):=⟨_,v9h rfl⟩
 rw[←HR.out]
 by_cases h0:s.size=0
 ·have HB:Hid (r=false):=by
   have hl:=qr s;show r=false;rw[HR.out,List.eq_nil_of_length_eq_zero (by omega:(toL s).length=0)];rfl
  have t0:(s.toList==([]:List UInt8))=true:=by rw[jL,h0];rfl
  have t1:s.toList.isEmpty=true:=by simpa using t0
  go_enter Tryz.func223,Tryz.ntmps223
  go_wp2_with fail
  go_ret
  exact⟨by rw[HB.out];rfl,rfl⟩
 have t0:(s.toList==([]:List UInt8))=false:=by rw[jL];exact decide_eq_false h0
 have t1:s.toList.isEmpty=false:=by
  cases h:s.toList.isEmpty with
  |false=>rfl
  |true=>rw[List.isEmpty_iff] at h;rw[h] at t0;cases t0
 have hsz:0<s.size:=by omega
 have HD:=v9h (ahg s hsz)
 have HI:Hid (∀i (h:i<s.size),(s[i].toNat<48∨57<s[i].toNat)→(toL s).all digU=false):=fun i h hp=>by
  rw[Bool.eq_false_iff];intro ha;have:=kt.1 ha i h;unfold digU at this;simp only[Bool.and_eq_true,decide_eq_true_eq] at this
  omega
 by_cases hbad:s[0].toNat=48∧1<s.size
 ·obtain⟨h48,h1⟩:=hbad
  have HB:Hid (r=false):=by
   have e:s[0]=48:=UInt8.toNat_inj.1 (by rw[h48];rfl);show r=false;rw[HR.out,HD.out,e,decide_eq_true h1];rfl
  have h48':((s[0].toNat:Int)==48)=true:=by rw[h48];rfl
  go_enter Tryz.func223,Tryz.ntmps223
  go_wp2_with fail
  go_ret
  exact⟨by rw[HB.out];rfl,rfl⟩
 ·have HA:Hid (r=(toL s).all digU):=by
   show r=_;rw[HR.out,HD.out]
   by_cases e:s[0]=48
   ·rw[e,decide_eq_false (fun h1=>hbad ⟨by rw[e];rfl,h1⟩)];rfl
   ·have:(s[0]==48)=false:=by simpa using e
    rw[this];rfl
  have hw:(((s[0].toNat:Int)==48)=false)∨(((s[0].toNat:Int)==48)=true∧¬1<s.size):=by
   by_cases h48:s[0].toNat=48
   ·exact Or.inr ⟨by rw[h48];rfl,fun h=>hbad ⟨h48,h⟩⟩
   ·left;simp;omega
  clear hbad HR HD
  rcases hw with h48|⟨h48,h1⟩
  all_goals
   go_enter Tryz.func223,Tryz.ntmps223
   go_wp2_with fail
   clear h48
   go_loop [18] (fun i=>∃k:Nat,k≤s.size∧i = .int .i64 k∧Hid (∀i (h:i<s.size),i<k→digU s[i]=true)) (fun i=>s.size-(intOf i).toNat)
   case atStart=>exact⟨0,Nat.zero_le _,rfl,fun i h hi=>by omega⟩
   case round=>
    obtain⟨k,hk,rfl,HN⟩:=hrel
    by_cases hlt:k<s.size
    ·by_cases q1:s[k].toNat<48
     ·have HB:Hid (r=false):=by show r=false;rw[HA.out];exact HI.out k hlt (Or.inl q1)
      go_wp2_with fail
      go_ret
      exact⟨by rw[HB.out];rfl,rfl⟩
     ·by_cases q2:57<s[k].toNat
      ·have HB:Hid (r=false):=by show r=false;rw[HA.out];exact HI.out k hlt (Or.inr q2)
       go_wp2_with fail
       go_ret
       exact⟨by rw[HB.out];rfl,rfl⟩
      ·have HE:Hid (∀i (h:i<s.size),i<k+1→digU s[i]=true):=fun i h hi=>by
        by_cases e:i=k
        ·subst e;unfold digU;rw[decide_eq_true (by omega),decide_eq_true (by omega)];rfl
        ·exact HN.out i h (by omega)
       go_wp2_with fail
       go_round
       case rel=>exact⟨k+1,by omega,by go_num,HE⟩
       case measure=>simp[intOf];omega
    ·have HB:Hid (r=true):=by show r=true;rw[HA.out];exact kt.2 fun i h=>HN.out i h (by omega)
     go_wp2_with fail
     go_ret
     exact⟨by rw[HB.out];rfl,rfl⟩
theorem xI(s:ByteArray):toL (s.extract 1 s.size)=(toL s).drop 1:=by
 unfold toL;rw[ByteArray.data_extract,Array.toList_extract];have:s.data.toList.length=s.size:=by rw[Array.length_toList];rfl
 rw[List.extract_eq_take_drop,List.take_of_length_le (by rw[List.length_drop];omega)]
theorem qP(s:ByteArray)(w:World)(hs:s.size≤9223372036854775807)(hk:KwX w):Calls Tryz.prog 151 #[.string s] w fun e w'=>e = .returned (.bool (qW s))∧w=w':=by
 obtain⟨r,HR⟩:∃r,Hid (r=qW s):=⟨_,v9h rfl⟩
 rw[←HR.out]
 by_cases h32:s.size≤32
 ·have h32':(s.size:Int)≤32:=by omega
  cases hp:Lib.hasPrefix s.data.toList [36] with
  |true=>
   have HB:Hid (r=natL ((toL s).drop 1)):=by show r=_;rw[HR.out];unfold qW;rw[if_pos ⟨h32,hp⟩]
   have h1:1≤s.size:=by
    have hl:=qr s;unfold toL at hl
    cases h:s.data.toList with
    |nil=>rw[h] at hp;cases hp
    |cons a b=>rw[h] at hl;simp at hl;omega
   have HP:=v9h hp;clear hp
   go_enter Tryz.func151,Tryz.ntmps151
   go_wp2_with fail
   refine(Tryz.strings_HasPrefix _ _ _).mono ?_;rintro e w1 ⟨rfl,rfl⟩;rw[show Lib.hasPrefix s.data.toList (ByteArray.mk #[36]).data.toList=true from HP.out]
   go_wp2_with fail
   have HT:Hid (natL (toL (s.extract 1 s.size))=natL ((toL s).drop 1)):=by show _=_;rw[xI s]
   have hsz:(s.extract 1 s.size).size≤9223372036854775807:=by
    have:=qr (s.extract 1 s.size);rw[xI,List.length_drop,qr] at this
    omega
   refine(aev _ _ hsz).mono ?_;rintro e w1 ⟨rfl,rfl⟩
   go_wp2_with fail
   go_ret
   exact⟨by rw[HB.out,HT.out];rfl,rfl⟩
  |false=>
   have HB:Hid (r=zC s):=by show r=_;rw[HR.out];unfold qW;rw[if_neg (fun h=>by have:=h.2;unfold toL at this;rw[hp] at this;cases this)]
   have HP:=v9h hp;clear hp
   go_enter Tryz.func151,Tryz.ntmps151
   go_wp2_with fail
   refine(Tryz.strings_HasPrefix _ _ _).mono ?_;rintro e w1 ⟨rfl,rfl⟩;rw[show Lib.hasPrefix s.data.toList (ByteArray.mk #[36]).data.toList=false from HP.out]
   go_wp2_with fail
   refine(ku s _ hs hk).mono ?_;rintro e w1 ⟨rfl,rfl⟩
   go_wp2_with fail
   go_ret
   exact⟨by rw[HB.out];rfl,rfl⟩
 ·have HB:Hid (r=zC s):=by show r=_;rw[HR.out];unfold qW;rw[if_neg (fun h=>h32 h.1)]
  go_enter Tryz.func151,Tryz.ntmps151
  go_wp2_with fail
  refine(ku s _ hs hk).mono ?_;rintro e w1 ⟨rfl,rfl⟩
  go_wp2_with fail
  go_ret
  exact⟨by rw[HB.out];rfl,rfl⟩
theorem yr(B:Nat)(f:Fun)(AV AC:Option Addr)(cV cC:Nat)(v:Int)(w:World)(hb:Box w B [.string f.cls,.string f.name,.bool f.static,.int .i64 f.nparams,.slice AV f.vars.length cV,.string f.result,.slice AC f.code.length cC] 42) :
  Calls Tryz.prog 227 #[.int .i64 v,.pointer (some ⟨B,0,none⟩)] w fun e w'=>e = .returned (.bool (varB f.vars.length v))∧w=w':=by
 obtain⟨r,HR⟩:∃r,Hid (r=varB f.vars.length v):=⟨_,v9h rfl⟩
 rw[←HR.out];have p4:=hb.cell 4 rfl;have pl:=hb.lt
 by_cases h0:0≤v
 ·by_cases h1:v<f.vars.length
  ·have HB:Hid (r=true):=by show r=true;rw[HR.out];unfold varB;rw[decide_eq_true h0,decide_eq_true h1];rfl
   go_enter Tryz.func227,Tryz.ntmps227
   go_wp2_with fail
   go_ret
   exact⟨by rw[HB.out];rfl,rfl⟩
  ·have HB:Hid (r=false):=by show r=false;rw[HR.out];unfold varB;rw[decide_eq_false h1];simp
   go_enter Tryz.func227,Tryz.ntmps227
   go_wp2_with fail
   go_ret
   exact⟨by rw[HB.out];rfl,rfl⟩
 ·have HB:Hid (r=false):=by show r=false;rw[HR.out];unfold varB;rw[decide_eq_false h0];rfl
  go_enter Tryz.func227,Tryz.ntmps227
  go_wp2_with fail
  go_ret
  exact⟨by rw[HB.out];rfl,rfl⟩
theorem ja(f:Fun)(AV AC:Option Addr)(cV cC:Nat)(i:Int)(w:World)(hs:Sl Lay.ins w AC f.code) :
  Calls Tryz.prog 228 #[.agg #[.string f.cls,.string f.name,.bool f.static,.int .i64 f.nparams,.slice AV f.vars.length cV,.string f.result,.slice AC f.code.length cC],.int .i64 i] w fun e w'=>e = .returned (.bool (zL f.code i))∧Below w.heap.size w w':=by
 obtain⟨r,HR⟩:∃r,Hid (r=zL f.code i):=⟨_,v9h rfl⟩
 rw[←HR.out];have hb0:Below w.heap.size w (w.alloc (.cells #[.string f.cls,.string f.name,.bool f.static,.int .i64 f.nparams,.slice AV f.vars.length cV,.string f.result,.slice AC f.code.length cC] 42)):=(by repeat(first|assumption|exact v9r|apply zc|apply zd|apply zg|apply ze|apply zi))
 by_cases h0:0≤i
 ·by_cases h1:i<f.code.length
  ·obtain⟨k,rfl⟩:∃k:Nat,i=k:=⟨i.toNat,by omega⟩
   have hk:k<f.code.length:=by omega
   obtain⟨b,o,A7,c7,rfl,hb,d0,_⟩:=hs.ins_at hk;have HB:Hid (r=decide (f.code[k].op=15)):=by show r=_;rw[HR.out,qJ hk]
   go_enter Tryz.func228,Tryz.ntmps228
   go_wp2_with fail
   go_ret
   exact⟨by rw[HB.out];rfl,hb0⟩
  ·have HB:Hid (r=false):=by show r=false;rw[HR.out,kv (by omega)]
   go_enter Tryz.func228,Tryz.ntmps228
   go_wp2_with fail
   go_ret
   exact⟨by rw[HB.out];rfl,hb0⟩
 ·have HB:Hid (r=false):=by show r=false;rw[HR.out,kv (by omega)]
  go_enter Tryz.func228,Tryz.ntmps228
  go_wp2_with fail
  go_ret
  exact⟨by rw[HB.out];rfl,hb0⟩
theorem xJ{op:Int}(h:zp op 103=true):op=11∨op=12:=by
 rcases Classical.em (op=11∨op=12) with h2|h2
 ·exact h2
 ·exfalso
  cases hk:zH op with
  |false=>unfold zp at h;rw[hk] at h;cases h
  |true=>
   unfold zH at hk;simp only[Bool.and_eq_true,decide_eq_true_eq] at hk;have:op=0∨op=1∨op=2∨op=3∨op=4∨op=5∨op=6∨op=7∨op=8∨op=9∨op=10∨op=13∨op=14∨op=15∨op=16:=by omega
   rcases this with rfl|rfl|rfl|rfl|rfl|rfl|rfl|rfl|rfl|rfl|rfl|rfl|rfl|rfl|rfl<;>cases h
def ctl2(code:List Ins)(i:Nat)(c:Ins):Bool:= !(zp c.op 103&&zL code c.jmp)&&(decide (c.op≠15)||decide (0<i))
theorem abZ(f:Fun)(AV AC:Option Addr)(cV cC:Nat)(i:Nat)(w:World)(hl:f.code.length≤8796093022208)(hi:i<f.code.length)(hs:Sl Lay.ins w AC f.code)(hfx:yw w) :
  Calls Tryz.prog 156 #[.agg #[.string f.cls,.string f.name,.bool f.static,.int .i64 f.nparams,.slice AV f.vars.length cV,.string f.result,.slice AC f.code.length cC],.int .i64 i] w fun e w'=>e = .returned (.bool (ctlB f.code i f.code[i]))∧Below w.heap.size w w':=by
 obtain⟨r,HR⟩:∃r,Hid (r=ctlB f.code i f.code[i]):=⟨_,v9h rfl⟩
 rw[←HR.out];obtain⟨b,o,AI,cI,rfl,hb,d0,d1,d2,d3,d4,d5,d6,d7,d8,d9,hc7,hs7⟩:=hs.ins_at hi;generalize hx:f.code[i]=x at *
 go_enter Tryz.func156,Tryz.ntmps156
 go_upto_region 2 with fail
 generalize hW:World.alloc _ _=W1 at *
 have hb1:Below w.heap.size w W1:=by rw[←hW];exact(by repeat(first|assumption|exact v9r|apply zc|apply zd|apply zg|apply ze|apply zi))
 have bf:Box W1 w.heap.size [.string f.cls,.string f.name,.bool f.static,.int .i64 f.nparams,.slice AV f.vars.length cV,.string f.result,.slice (some ⟨b,o,none⟩) f.code.length cC] 42:=by rw[←hW];exact(by repeat(first|(refine Box.at ?_;(simp;done))|apply Box.drew|apply Box.alloc|assumption))
 have bx:Box W1 (w.heap.size+1) [.int .i64 x.op,.int .i64 x.dst,.int .i64 x.a,.int .i64 x.b,.int .i64 x.n,.string x.cls,.string x.name,.slice AI x.args.length cI,.int .i64 x.jmp,.int .i64 x.hnd] 59:=by rw[←hW];exact(by repeat(first|(refine Box.at ?_;(simp;done))|apply Box.drew|apply Box.alloc|assumption))
 clear hW d0 d1 d2 d3 d4 d5 d6 d7 d8 d9;have hsW:=hs.mono hb1;have hfW:=hfx.mono hb1;have p0:=bx.cell 0 rfl;have p8:=bx.cell 8 rfl;have pl:=bx.lt;have f0:=bf.cell 0 rfl;have f1:=bf.cell 1 rfl;have f2:=bf.cell 2 rfl;have f3:=bf.cell 3 rfl;have f4:=bf.cell 4 rfl;have f5:=bf.cell 5 rfl;have f6:=bf.cell 6 rfl;have fl:=bf.lt
 by_cases h12:x.op=12
 ·have HR2:Hid (r=ctl2 f.code i x):=by show r=_;rw[HR.out];unfold ctlB ctl2;simp[h12]
  have k12:(x.op==12)=true:=by rw[h12];rfl
  have hop:=v9h h12;clear h12
  go_wp2_with fail
  cases hg:zp x.op 103 with
  |false=>
   refine(zj hg _ hfW).mono ?_;rintro e w9 ⟨rfl,hw9⟩;subst hw9
   by_cases h15:x.op=15
   ·have h15':(x.op != 15)=false:=by rw[h15];rfl
    have h15'':(x.op==15)=true:=by rw[h15];rfl
    by_cases hi0:0<i
    ·have HB:Hid (r=true):=by show r=true;rw[HR2.out];unfold ctl2;rw[hg,decide_eq_true hi0];simp
     clear h15 hg
     go_wp2_with fail
     go_ret
     exact⟨by rw[HB.out];rfl,hb1⟩
    ·have HB:Hid (r=false):=by show r=false;rw[HR2.out];unfold ctl2;rw[hg,decide_eq_false hi0];simp[h15]
     clear h15 hg
     go_wp2_with fail
     go_ret
     exact⟨by rw[HB.out];rfl,hb1⟩
   ·have h15':(x.op != 15)=true:=by simpa using h15
    have HB:Hid (r=true):=by show r=true;rw[HR2.out];unfold ctl2;rw[hg,decide_eq_true h15];simp
    clear h15 hg
    go_wp2_with fail
    go_ret
    exact⟨by rw[HB.out];rfl,hb1⟩
  |true=>
   refine(zj hg _ hfW).mono ?_;rintro e w9 ⟨rfl,hw9⟩;subst hw9;have h15:x.op≠15:=by have:=xJ hg;omega
   have h15':(x.op != 15)=true:=by simpa using h15
   go_wp2_with fail
   refine(ja f AV _ cV cC x.jmp _ (hs.mono hb1)).mono ?_;rintro e w2 ⟨rfl,hb2⟩;have q0:=(bx.mono hb2).cell 0 rfl;have ql:=(bx.mono hb2).lt;have hbz:=za hb1 hb2
   cases hq2:zL f.code x.jmp with
   |true=>
    have HB:Hid (r=false):=by show r=false;rw[HR2.out];unfold ctl2;rw[hg,hq2];rfl
    clear h15 hg hq2
    go_wp2_with fail
    go_ret
    exact⟨by rw[HB.out];rfl,hbz⟩
   |false=>
    have HB:Hid (r=true):=by show r=true;rw[HR2.out];unfold ctl2;rw[hg,hq2,decide_eq_true h15];rfl
    clear h15 hg hq2
    go_wp2_with fail
    go_ret
    exact⟨by rw[HB.out];rfl,hbz⟩
 by_cases h13:x.op=13
 ·have HR2:Hid (r=ctl2 f.code i x):=by show r=_;rw[HR.out];unfold ctlB ctl2;simp[h13]
  have k13:(x.op==13)=true:=by rw[h13];rfl
  have n12:(x.op==12)=false:=by simpa using h12
  clear h12;have hop:=v9h h13;clear h13
  go_wp2_with fail
  cases hg:zp x.op 103 with
  |false=>
   refine(zj hg _ hfW).mono ?_;rintro e w9 ⟨rfl,hw9⟩;subst hw9
   by_cases h15:x.op=15
   ·have h15':(x.op != 15)=false:=by rw[h15];rfl
    have h15'':(x.op==15)=true:=by rw[h15];rfl
    by_cases hi0:0<i
    ·have HB:Hid (r=true):=by show r=true;rw[HR2.out];unfold ctl2;rw[hg,decide_eq_true hi0];simp
     clear h15 hg
     go_wp2_with fail
     go_ret
     exact⟨by rw[HB.out];rfl,hb1⟩
    ·have HB:Hid (r=false):=by show r=false;rw[HR2.out];unfold ctl2;rw[hg,decide_eq_false hi0];simp[h15]
     clear h15 hg
     go_wp2_with fail
     go_ret
     exact⟨by rw[HB.out];rfl,hb1⟩
   ·have h15':(x.op != 15)=true:=by simpa using h15
    have HB:Hid (r=true):=by show r=true;rw[HR2.out];unfold ctl2;rw[hg,decide_eq_true h15];simp
    clear h15 hg
    go_wp2_with fail
    go_ret
    exact⟨by rw[HB.out];rfl,hb1⟩
  |true=>
   refine(zj hg _ hfW).mono ?_;rintro e w9 ⟨rfl,hw9⟩;subst hw9;have h15:x.op≠15:=by have:=xJ hg;omega
   have h15':(x.op != 15)=true:=by simpa using h15
   go_wp2_with fail
   refine(ja f AV _ cV cC x.jmp _ (hs.mono hb1)).mono ?_;rintro e w2 ⟨rfl,hb2⟩;have q0:=(bx.mono hb2).cell 0 rfl;have ql:=(bx.mono hb2).lt;have hbz:=za hb1 hb2
   cases hq2:zL f.code x.jmp with
   |true=>
    have HB:Hid (r=false):=by show r=false;rw[HR2.out];unfold ctl2;rw[hg,hq2];rfl
    clear h15 hg hq2
    go_wp2_with fail
    go_ret
    exact⟨by rw[HB.out];rfl,hbz⟩
   |false=>
    have HB:Hid (r=true):=by show r=true;rw[HR2.out];unfold ctl2;rw[hg,hq2,decide_eq_true h15];rfl
    clear h15 hg hq2
    go_wp2_with fail
    go_ret
    exact⟨by rw[HB.out];rfl,hbz⟩
 by_cases h14:x.op=14
 ·have HR2:Hid (r=ctl2 f.code i x):=by show r=_;rw[HR.out];unfold ctlB ctl2;simp[h14]
  have k14:(x.op==14)=true:=by rw[h14];rfl
  have n12:(x.op==12)=false:=by simpa using h12
  have n13:(x.op==13)=false:=by simpa using h13
  clear h12 h13;have hop:=v9h h14;clear h14
  go_wp2_with fail
  cases hg:zp x.op 103 with
  |false=>
   refine(zj hg _ hfW).mono ?_;rintro e w9 ⟨rfl,hw9⟩;subst hw9
   by_cases h15:x.op=15
   ·have h15':(x.op != 15)=false:=by rw[h15];rfl
    have h15'':(x.op==15)=true:=by rw[h15];rfl
    by_cases hi0:0<i
    ·have HB:Hid (r=true):=by show r=true;rw[HR2.out];unfold ctl2;rw[hg,decide_eq_true hi0];simp
     clear h15 hg
     go_wp2_with fail
     go_ret
     exact⟨by rw[HB.out];rfl,hb1⟩
    ·have HB:Hid (r=false):=by show r=false;rw[HR2.out];unfold ctl2;rw[hg,decide_eq_false hi0];simp[h15]
     clear h15 hg
     go_wp2_with fail
     go_ret
     exact⟨by rw[HB.out];rfl,hb1⟩
   ·have h15':(x.op != 15)=true:=by simpa using h15
    have HB:Hid (r=true):=by show r=true;rw[HR2.out];unfold ctl2;rw[hg,decide_eq_true h15];simp
    clear h15 hg
    go_wp2_with fail
    go_ret
    exact⟨by rw[HB.out];rfl,hb1⟩
  |true=>
   refine(zj hg _ hfW).mono ?_;rintro e w9 ⟨rfl,hw9⟩;subst hw9;have h15:x.op≠15:=by have:=xJ hg;omega
   have h15':(x.op != 15)=true:=by simpa using h15
   go_wp2_with fail
   refine(ja f AV _ cV cC x.jmp _ (hs.mono hb1)).mono ?_;rintro e w2 ⟨rfl,hb2⟩;have q0:=(bx.mono hb2).cell 0 rfl;have ql:=(bx.mono hb2).lt;have hbz:=za hb1 hb2
   cases hq2:zL f.code x.jmp with
   |true=>
    have HB:Hid (r=false):=by show r=false;rw[HR2.out];unfold ctl2;rw[hg,hq2];rfl
    clear h15 hg hq2
    go_wp2_with fail
    go_ret
    exact⟨by rw[HB.out];rfl,hbz⟩
   |false=>
    have HB:Hid (r=true):=by show r=true;rw[HR2.out];unfold ctl2;rw[hg,hq2,decide_eq_true h15];rfl
    clear h15 hg hq2
    go_wp2_with fail
    go_ret
    exact⟨by rw[HB.out];rfl,hbz⟩
 have n12:(x.op==12)=false:=by simpa using h12
 have n13:(x.op==13)=false:=by simpa using h13
 have n14:(x.op==14)=false:=by simpa using h14
 have HR1:Hid (r=(!(decide ((i:Int)=f.code.length-1)||zL f.code ((i:Int)+1))&&ctl2 f.code i x)):=by
  show r=_;rw[HR.out];unfold ctlB ctl2;rw[decide_eq_false h12,decide_eq_false h13,decide_eq_false h14]
  simp[Bool.and_assoc]
 clear h12 h13 h14
 by_cases he:(i:Int)=f.code.length-1
 ·have HB:Hid (r=false):=by show r=false;rw[HR1.out,decide_eq_true he];simp
  have he':((i:Int)==(f.code.length:Int)-1)=true:=by simpa using he
  clear he
  go_wp2_with fail
  go_ret
  exact⟨by rw[HB.out];rfl,hb1⟩
 ·have he':((i:Int)==(f.code.length:Int)-1)=false:=by simpa using he
  have HE:=v9h he;clear he
  go_wp2_with fail
  refine(ja f AV _ cV cC ((i:Int)+1) _ hsW).mono ?_;rintro e w1 ⟨rfl,hb2⟩;have hbw1:=za hb1 hb2;have bx1:=bx.mono hb2;have bf1:=bf.mono hb2;have hf1:=hfW.mono hb2
  cases hq1:zL f.code ((i:Int)+1) with
  |true=>
   have HB:Hid (r=false):=by show r=false;rw[HR1.out,hq1];simp
   clear hq1
   go_wp2_with fail
   go_ret
   exact⟨by rw[HB.out];rfl,hbw1⟩
  |false=>
   have HR2:Hid (r=ctl2 f.code i x):=by show r=_;rw[HR1.out,hq1,decide_eq_false HE.out];rfl
   clear hq1 p0 p8 pl f0 f1 f2 f3 f4 f5 f6 fl;have p0:=bx1.cell 0 rfl;have p8:=bx1.cell 8 rfl;have pl:=bx1.lt;have f0:=bf1.cell 0 rfl;have f1:=bf1.cell 1 rfl;have f2:=bf1.cell 2 rfl;have f3:=bf1.cell 3 rfl;have f4:=bf1.cell 4 rfl;have f5:=bf1.cell 5 rfl;have f6:=bf1.cell 6 rfl;have fl:=bf1.lt
   go_wp2_with fail
   cases hg:zp x.op 103 with
   |false=>
    refine(zj hg _ hf1).mono ?_;rintro e w9 ⟨rfl,hw9⟩;subst hw9
    by_cases h15:x.op=15
    ·have h15':(x.op != 15)=false:=by rw[h15];rfl
     have h15'':(x.op==15)=true:=by rw[h15];rfl
     by_cases hi0:0<i
     ·have HB:Hid (r=true):=by show r=true;rw[HR2.out];unfold ctl2;rw[hg,decide_eq_true hi0];simp
      clear h15 hg
      go_wp2_with fail
      go_ret
      exact⟨by rw[HB.out];rfl,hbw1⟩
     ·have HB:Hid (r=false):=by show r=false;rw[HR2.out];unfold ctl2;rw[hg,decide_eq_false hi0];simp[h15]
      clear h15 hg
      go_wp2_with fail
      go_ret
      exact⟨by rw[HB.out];rfl,hbw1⟩
    ·have h15':(x.op != 15)=true:=by simpa using h15
     have HB:Hid (r=true):=by show r=true;rw[HR2.out];unfold ctl2;rw[hg,decide_eq_true h15];simp
     clear h15 hg
     go_wp2_with fail
     go_ret
     exact⟨by rw[HB.out];rfl,hbw1⟩
   |true=>
    refine(zj hg _ hf1).mono ?_;rintro e w9 ⟨rfl,hw9⟩;subst hw9;have h15:x.op≠15:=by have:=xJ hg;omega
    have h15':(x.op != 15)=true:=by simpa using h15
    go_wp2_with fail
    refine(ja f AV _ cV cC x.jmp _ (hs.mono hbw1)).mono ?_;rintro e w2 ⟨rfl,hb2⟩;have q0:=(bx1.mono hb2).cell 0 rfl;have ql:=(bx1.mono hb2).lt;have hbz:=za hbw1 hb2
    cases hq2:zL f.code x.jmp with
    |true=>
     have HB:Hid (r=false):=by show r=false;rw[HR2.out];unfold ctl2;rw[hg,hq2];rfl
     clear h15 hg hq2
     go_wp2_with fail
     go_ret
     exact⟨by rw[HB.out];rfl,hbz⟩
    |false=>
     have HB:Hid (r=true):=by show r=true;rw[HR2.out];unfold ctl2;rw[hg,hq2,decide_eq_true h15];rfl
     clear h15 hg hq2
     go_wp2_with fail
     go_ret
     exact⟨by rw[HB.out];rfl,hbz⟩
end Go.Proofs.YtmhdambkchlilaaGreatDoor
