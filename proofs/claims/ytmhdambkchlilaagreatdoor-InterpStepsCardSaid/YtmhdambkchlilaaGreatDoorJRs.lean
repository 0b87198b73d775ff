/- Chapter 12: what the answer's check of a unit leans on (no package variable). Chapter 12: the answer's instr: the error of an instruction. Chapter 12: the answer's Natural, names. -/
import Derived.Test.YtmhdambkchlilaaGreatDoorJUs
import Derived.Test.YtmhdambkchlilaaGreatDoorJRcKt
import Derived.Test.YtmhdambkchlilaaGreatDoorJRd
namespace Go.Proofs.YtmhdambkchlilaaGreatDoor
open Go.RowKit
set_option linter.unusedVariables false
set_option maxRecDepth 100000
set_option maxHeartbeats 4000000
structure FnR(w:World)(cs:List Cls)(f:Fun)(AH AV AC:Option Addr)(cH:Nat):Prop where
 hl:cs.length≤8796093022208
 hcc:cs.length≤cH
 hs:Sl Lay.cls w AH cs
 hok:yQ cs
 hlk:yp cs
 hv:Sl Lay.fld w AV f.vars
 hvl:f.vars.length≤8796093022208
 hvo:∀v∈f.vars,zG v.name∧zG v.typ
 hc:Sl Lay.ins w AC f.code
 hcl:f.code.length≤8796093022208
 hio:∀x∈f.code,zG x.cls∧x.args.length≤17592186044416
 hxr:zG f.result
theorem FnR.mono{w w':World}{cs:List Cls}{f:Fun}{AH AV AC:Option Addr}{cH:Nat}(H:FnR w cs f AH AV AC cH)(hb:Below w.heap.size w w'):FnR w' cs f AH AV AC cH:=
 ⟨H.hl,H.hcc,H.hs.mono hb,H.hok,H.hlk,H.hv.mono hb,H.hvl,H.hvo,H.hc.mono hb,H.hcl,H.hio,H.hxr⟩
structure UnR(w:World)(u:Unt)(A0 A1:Option Addr)(c0:Nat):Prop where
 hl:u.classes.length≤8796093022208
 hcc:u.classes.length≤c0
 hs:Sl Lay.cls w A0 u.classes
 hok:yQ u.classes
 hlk:yp u.classes
 hf:Sl Lay.fun w A1 u.funcs
 hfl:u.funcs.length≤8796093022208
 hfo:∀f∈u.funcs,afG f
theorem UnR.mono{w w':World}{u:Unt}{A0 A1:Option Addr}{c0:Nat}(H:UnR w u A0 A1 c0)(hb:Below w.heap.size w w'):UnR w' u A0 A1 c0:=
 ⟨H.hl,H.hcc,H.hs.mono hb,H.hok,H.hlk,H.hf.mono hb,H.hfl,H.hfo⟩
theorem agH(op:Int):((nmR op).toList==([]:List UInt8)) = !zH op:=by
 cases hk:zH op with
 |false=>
  unfold nmR;rw[if_neg (by rw[hk];simp)];rw[ByteArray.toList_eq]
  rfl
 |true=>
  obtain⟨k,rfl,hl⟩:=kA hk;have:nmR (k:Int)=nmRB[k]'hl:=by unfold nmR;rw[if_pos hk,Int.toNat_natCast,List.getElem?_eq_getElem (show k<nmRB.length from hl)];rfl
  rw[this];have:=ae6 k hl
  cases h:(nmRB[k]'hl).toList with
  |nil=>rw[h] at this;cases this
  |cons a b=>rfl
theorem ajc{n:Nat}{code:List Ins}{x:Ins}(h:jc n code x=true):zp x.op 103=true→0≤x.jmp∧x.jmp<code.length:=fun hu=>by
 rw[aaY] at h;simp only[Bool.and_eq_true,Bool.not_eq_true'] at h;have h2:=h.2.2.1;unfold rB2 at h2;rw[hu] at h2
 simp at h2
 omega
theorem ad6(cs:List Cls)(f:Fun)(AH AV AC:Option Addr)(cH cV cC i:Nat)(w:World)(H:Hid (FnR w cs f AH AV AC cH))(hia:Hid (∀x∈f.code,x.args.length≤17592186043904))(hn:Hid (NoKw cs))(hi:i<f.code.length)(hop:Hid (f.code[i].op=5∨f.code[i].op=13)) :
  Calls Tryz.prog 200 #[.agg #[.slice AH cs.length cH],.agg #[.string f.cls,.string f.name,.bool f.static,.int .i64 f.nparams,.slice AV f.vars.length cV,.string f.result,.slice AC f.code.length cC],.int .i64 i] w fun e w'=>e = .returned (.int .i64 (insE cs f.vars f.result f.code i f.code[i]))∧Below w.heap.size w w':=by
 obtain⟨r,HR⟩:∃r,Hid (r=insE cs f.vars f.result f.code i f.code[i]):=⟨_,v9h rfl⟩
 rw[←HR.out];have hiI:(i:Int)<f.code.length:=by omega
 have hal:=hia.out _ (List.getElem_mem hi);have hio:=H.out.hio _ (List.getElem_mem hi);obtain⟨b1,o1,A7,c7,hAC,hbC,k0,k1,k2,k3,k4,k5,k6,k7,k8,k9,hc7,hs7⟩:=H.out.hc.ins_at hi;have HLV:=v9h (fun W (h:Below w.heap.size w W) hg=>adg f AV AC cV cC i W H.out.hcl (H.out.hc.mono h) hi hg);obtain⟨x,hx⟩:∃x,x=f.code[i]:=⟨_,rfl⟩
 rw[←hx] at k0 k1 k2 k3 k4 k5 k6 k7 k8 k9 HR HLV hs7 hc7 hal hio hop;clear hx;have HR1:Hid (r=if zT x then 12 else if !zE x then 1 else if !yL f.vars.length f.code x then 4 else if !ctlB f.code i x then 1 else insT cs f.vars f.result x):=by show r=_;rw[HR.out,aa8]
 clear HR;have HNM:=v9h (fun W=>kq x.op W);have hnm:=agH x.op;generalize nmR x.op=nm at *
 have HKB:Hid (zT x=(!zH x.op||((x.op==4)&&(decide (x.n<1)||decide (5<x.n))))):=rfl;obtain⟨kb,HKK⟩:∃kb,Hid (kb=zH x.op):=⟨_,v9h rfl⟩
 rw[←HKK.out] at HKB hnm;have HTY:Hid (yL f.vars.length f.code x=true→∀W,Below w.heap.size w W→Hid (TyH W cs f x AH AV A7 cH)):=fun hr W h=>v9h ⟨H.out.hl,H.out.hcc,H.out.hs.mono h,H.out.hok,H.out.hlk,H.out.hv.mono h,fun v hv=>(H.out.hvo v hv).2,hs7.mono h,hio.2,ae1 hr,hio.1,H.out.hxr⟩
 subst hAC
 go_enter Tryz.func200,Tryz.ntmps200
 go_upto_region 1 with fail
 generalize hW:World.alloc _ _=W1 at *
 have hb1:Below w.heap.size w W1:=by rw[←hW];exact(by repeat(first|assumption|exact v9r|apply zc|apply zd|apply zg|apply ze|apply zi))
 have bh1:Box W1 w.heap.size [.slice AH cs.length cH] 29:=by rw[←hW];exact(Box.new _ _ _).alloc _
 have bf1:Box W1 (w.heap.size+1) [.string f.cls,.string f.name,.bool f.static,.int .i64 f.nparams,.slice AV f.vars.length cV,.string f.result,.slice (some ⟨b1,o1,none⟩) f.code.length cC] 42:=by rw[←hW];exact Box.at (by simp)
 have hz1:W1.heap.size=w.heap.size+2:=by rw[←hW];simp
 clear hW;have f6:=bf1.cell 6 rfl;have fl:=bf1.lt;replace k0:=keptC k0 hbC hb1;replace k1:=keptC k1 hbC hb1;replace k2:=keptC k2 hbC hb1;replace k3:=keptC k3 hbC hb1;replace k4:=keptC k4 hbC hb1;replace k5:=keptC k5 hbC hb1;replace k6:=keptC k6 hbC hb1;replace k7:=keptC k7 hbC hb1;replace k8:=keptC k8 hbC hb1;replace k9:=keptC k9 hbC hb1;have hbC1:=Nat.lt_of_lt_of_le hbC hb1.size
 go_upto_region 2 with fail
 generalize hW:World.alloc _ _=W2 at *
 have hb2:Below w.heap.size w W2:=by rw[←hW];exact zc hb1
 have bh2:Box W2 w.heap.size [.slice AH cs.length cH] 29:=by rw[←hW];exact bh1.alloc _
 have bf2:Box W2 (w.heap.size+1) [.string f.cls,.string f.name,.bool f.static,.int .i64 f.nparams,.slice AV f.vars.length cV,.string f.result,.slice (some ⟨b1,o1,none⟩) f.code.length cC] 42:=by rw[←hW];exact bf1.alloc _
 have bx2:Box W2 (w.heap.size+2) [.int .i64 x.op,.int .i64 x.dst,.int .i64 x.a,.int .i64 x.b,.int .i64 x.n,.string x.cls,.string x.name,.slice A7 x.args.length c7,.int .i64 x.jmp,.int .i64 x.hnd] 59:=by rw[←hW];exact Box.at hz1
 clear hW f6 fl k0 k1 k2 k3 k4 k5 k6 k7 k8 k9 bh1 bf1 hbC1 hz1;have x0:=bx2.cell 0 rfl;have x4:=bx2.cell 4 rfl;have xl:=bx2.lt
 go_cut [31] (fun s wx=>s = .bool (zT x)∧Below W2.heap.size W2 wx)
 case first=>
  have HC:Hid (∀y:zk W2,Calls Tryz.prog 172 #[.int .i64 x.op] y.W fun e w'=>e = .returned (.string nm)∧Below y.W.heap.size y.W w'):=fun y=>HNM.out _
  cases kb with
  |false=>
   have HB:Hid (zT x=true):=by show _=_;rw[HKB.out];simp[]
   refine zr ?_
   try simp only[List.append_eq,List.cons_append,List.nil_append]
   repeat(go_big_quiet_step (first|(go_at_call 172;with_reducible exact Calls.later (HC.out _))))
   refine wpQuiet_nil ?_;rintro _ ⟨y,rfl⟩
   go_wp2_with fail
   go_meet
   exact⟨by rw[HB.out],y.h⟩
  |true=>
   rcases bspU (x.op==4) with q4|q4
   ·have HB:Hid (zT x=false):=by show _=_;rw[HKB.out];simp[q4]
    refine zr ?_
    try simp only[List.append_eq,List.cons_append,List.nil_append]
    repeat(go_big_quiet_step (first|(go_at_call 172;with_reducible exact Calls.later (HC.out _))))
    refine wpQuiet_nil ?_;rintro _ ⟨y,rfl⟩
    go_wp2_with fail
    go_meet
    exact⟨by rw[HB.out],y.h⟩
   ·by_cases n0:x.n<1
    ·have HB:Hid (zT x=true):=by show _=_;rw[HKB.out];simp[q4,n0]
     refine zr ?_
     try simp only[List.append_eq,List.cons_append,List.nil_append]
     repeat(go_big_quiet_step (first|(go_at_call 172;with_reducible exact Calls.later (HC.out _))))
     refine wpQuiet_nil ?_;rintro _ ⟨y,rfl⟩
     go_wp2_with fail
     go_meet
     exact⟨by rw[HB.out],y.h⟩
    ·by_cases n1:5<x.n
     ·have HB:Hid (zT x=true):=by show _=_;rw[HKB.out];simp[q4,n1]
      refine zr ?_
      try simp only[List.append_eq,List.cons_append,List.nil_append]
      repeat(go_big_quiet_step (first|(go_at_call 172;with_reducible exact Calls.later (HC.out _))))
      refine wpQuiet_nil ?_;rintro _ ⟨y,rfl⟩
      go_wp2_with fail
      go_meet
      exact⟨by rw[HB.out],y.h⟩
     ·have HB:Hid (zT x=false):=by show _=_;rw[HKB.out];simp[q4,n0,n1]
      refine zr ?_
      try simp only[List.append_eq,List.cons_append,List.nil_append]
      repeat(go_big_quiet_step (first|(go_at_call 172;with_reducible exact Calls.later (HC.out _))))
      refine wpQuiet_nil ?_;rintro _ ⟨y,rfl⟩
      go_wp2_with fail
      go_meet
      exact⟨by rw[HB.out],y.h⟩
 case rest=>
 obtain⟨rfl,hq3⟩:=hcut;have hb3:=za hb2 hq3;have bh3:=bh2.mono hq3;have bf3:=bf2.mono hq3;have bx3:=bx2.mono hq3;clear x0 x4 xl bh2 bf2 bx2 HNM hnm HKB
 cases hkb:zT x with
 |true=>
  have HB:Hid (r=12):=by show r=12;rw[HR1.out,hkb];rfl
  go_wp2_with fail
  go_ret
  exact⟨by rw[HB.out];rfl,hb3⟩
 |false=>
 have HKN:Hid (zH x.op=true):=by
  show _=_;unfold zT at hkb
  cases h:zH x.op with
  |true=>rfl
  |false=>rw[h] at hkb;cases hkb
 have HR2:Hid (r=if !zE x then 1 else if !yL f.vars.length f.code x then 4 else if !ctlB f.code i x then 1 else insT cs f.vars f.result x):=by show r=_;rw[HR1.out,hkb];rfl
 clear HR1 hkb;have f0:=bf3.cell 0 rfl;have f1:=bf3.cell 1 rfl;have f2:=bf3.cell 2 rfl;have f3:=bf3.cell 3 rfl;have f4:=bf3.cell 4 rfl;have f5:=bf3.cell 5 rfl;have f6:=bf3.cell 6 rfl;have fl:=bf3.lt;have x0:=bx3.cell 0 rfl;have x1:=bx3.cell 1 rfl;have x2:=bx3.cell 2 rfl;have x3:=bx3.cell 3 rfl;have x4:=bx3.cell 4 rfl;have x5:=bx3.cell 5 rfl;have x6:=bx3.cell 6 rfl;have x7:=bx3.cell 7 rfl;have x8:=bx3.cell 8 rfl;have x9:=bx3.cell 9 rfl;have xl:=bx3.lt;have h0:=bh3.cell 0 rfl;have hlh:=bh3.lt
 go_wp2_with fail
 refine(adh x A7 c7 _ hop.out).mono ?_;rintro e w4 ⟨rfl,hq4⟩;have hb4:=za hb3 hq4;have bh4:=bh3.mono hq4;have bf4:=bf3.mono hq4;have bx4:=bx3.mono hq4;clear f0 f1 f2 f3 f4 f5 f6 fl x0 x1 x2 x3 x4 x5 x6 x7 x8 x9 xl h0 hlh;clear bh3 bf3 bx3
 cases hz:zE x with
 |false=>
  have HB:Hid (r=1):=by show r=1;rw[HR2.out,hz];rfl
  go_wp2_with fail
  go_ret
  exact⟨by rw[HB.out];rfl,hb4⟩
 |true=>
 have HR3:Hid (r=if !jc f.vars.length f.code x then 4 else if !ctlB f.code i x then 1 else insT cs f.vars f.result x):=by show r=_;rw[HR2.out,hz,abI hz];rfl
 have HRE:Hid (jc f.vars.length f.code x=yL f.vars.length f.code x):=abI hz;clear HR2 hz;have f0:=bf4.cell 0 rfl;have f1:=bf4.cell 1 rfl;have f2:=bf4.cell 2 rfl;have f3:=bf4.cell 3 rfl;have f4:=bf4.cell 4 rfl;have f5:=bf4.cell 5 rfl;have f6:=bf4.cell 6 rfl;have fl:=bf4.lt;have x0:=bx4.cell 0 rfl;have x1:=bx4.cell 1 rfl;have x2:=bx4.cell 2 rfl;have x3:=bx4.cell 3 rfl;have x4:=bx4.cell 4 rfl;have x5:=bx4.cell 5 rfl;have x6:=bx4.cell 6 rfl;have x7:=bx4.cell 7 rfl;have x8:=bx4.cell 8 rfl;have x9:=bx4.cell 9 rfl;have xl:=bx4.lt;have h0:=bh4.cell 0 rfl;have hlh:=bh4.lt
 go_wp2_with fail
 refine(adf f x AV (some ⟨b1,o1,none⟩) A7 cV cC c7 _ H.out.hvl H.out.hcl (H.out.hc.mono hb4) hal (hs7.mono hb4)).mono ?_;rintro e w5 ⟨rfl,hq5⟩;have hb5:=za hb4 hq5;have bh5:=bh4.mono hq5;have bf5:=bf4.mono hq5;have bx5:=bx4.mono hq5;clear f0 f1 f2 f3 f4 f5 f6 fl x0 x1 x2 x3 x4 x5 x6 x7 x8 x9 xl h0 hlh;clear bh4 bf4 bx4
 cases hrg:jc f.vars.length f.code x with
 |false=>
  have HB:Hid (r=4):=by show r=4;rw[HR3.out,hrg];rfl
  go_wp2_with fail
  go_ret
  exact⟨by rw[HB.out];rfl,hb5⟩
 |true=>
 have HJ:Hid (zp x.op 103=true→0≤x.jmp∧x.jmp<f.code.length):=ajc hrg;have HTH:=v9h (HTY.out (by rw[←HRE.out];exact hrg));have HR4:Hid (r=if jN f.code i x then 1 else insT cs f.vars f.result x):=by show r=_;rw[HR3.out,hrg,afL];rfl
 clear HR3 hrg HRE HTY;have f0:=bf5.cell 0 rfl;have f1:=bf5.cell 1 rfl;have f2:=bf5.cell 2 rfl;have f3:=bf5.cell 3 rfl;have f4:=bf5.cell 4 rfl;have f5:=bf5.cell 5 rfl;have f6:=bf5.cell 6 rfl;have fl:=bf5.lt;have x0:=bx5.cell 0 rfl;have x1:=bx5.cell 1 rfl;have x2:=bx5.cell 2 rfl;have x3:=bx5.cell 3 rfl;have x4:=bx5.cell 4 rfl;have x5:=bx5.cell 5 rfl;have x6:=bx5.cell 6 rfl;have x7:=bx5.cell 7 rfl;have x8:=bx5.cell 8 rfl;have x9:=bx5.cell 9 rfl;have xl:=bx5.lt;have h0:=bh5.cell 0 rfl;have hlh:=bh5.lt
 go_wp2_with fail
 refine(HLV.out _ hb5 HJ).mono ?_;rintro e w6 ⟨rfl,hq6⟩;have hb6:=za hb5 hq6;have bh6:=bh5.mono hq6;have bf6:=bf5.mono hq6;have bx6:=bx5.mono hq6;clear f0 f1 f2 f3 f4 f5 f6 fl x0 x1 x2 x3 x4 x5 x6 x7 x8 x9 xl h0 hlh;clear bh5 bf5 bx5 HLV
 cases hlv:jN f.code i x with
 |true=>
  have HB:Hid (r=1):=by show r=1;rw[HR4.out,hlv];rfl
  go_wp2_with fail
  go_ret
  exact⟨by rw[HB.out];rfl,hb6⟩
 |false=>
 have HR5:Hid (r=insT cs f.vars f.result x):=by show r=_;rw[HR4.out,hlv];rfl
 clear HR4 hlv;have f0:=bf6.cell 0 rfl;have f1:=bf6.cell 1 rfl;have f2:=bf6.cell 2 rfl;have f3:=bf6.cell 3 rfl;have f4:=bf6.cell 4 rfl;have f5:=bf6.cell 5 rfl;have f6:=bf6.cell 6 rfl;have fl:=bf6.lt;have x0:=bx6.cell 0 rfl;have x1:=bx6.cell 1 rfl;have x2:=bx6.cell 2 rfl;have x3:=bx6.cell 3 rfl;have x4:=bx6.cell 4 rfl;have x5:=bx6.cell 5 rfl;have x6:=bx6.cell 6 rfl;have x7:=bx6.cell 7 rfl;have x8:=bx6.cell 8 rfl;have x9:=bx6.cell 9 rfl;have xl:=bx6.lt;have h0:=bh6.cell 0 rfl;have hlh:=bh6.lt
 go_wp2_with fail
 refine(ad4 cs f x AH AV (some ⟨b1,o1,none⟩) A7 cH cV cC c7 _ (HTH.out _ hb6) hn hop.out).mono ?_;rintro e w7 ⟨rfl,hq7⟩
 go_wp2_with fail
 go_ret
 exact⟨by rw[HR5.out];rfl,za hb6 hq7⟩
def dolB(s:ByteArray):Bool:=(toL s).headD 0==36
theorem agI{s:ByteArray}(h:0<s.size):dolB s=(s[0]'h==36):=by
 unfold dolB;have hl:=qr s
 cases hs:toL s with
 |nil=>rw[hs] at hl;simp at hl;omega
 |cons c r=>
  have hg:(toL s)[0]'(by omega)=s[0]:=by unfold toL;simp[ByteArray.getElem_eq_getElem_data]
  simp only[hs,List.getElem_cons_zero] at hg;rw[hg];rfl
theorem ahu(s:ByteArray):qW s=(zC s||(decide (2≤s.size)&&(decide (s.size≤32)&&(dolB s&&natL ((toL s).drop 1))))):=by
 have hl:=qr s;unfold qW
 by_cases h32:s.size≤32
 ·rw[decide_eq_true h32,Bool.true_and]
  cases hp:Lib.hasPrefix (toL s) [36] with
  |false=>
   rw[if_neg (fun h=>by cases h.2)]
   have:dolB s=false∨s.size=0:=by
    unfold dolB
    cases hs:toL s with
    |nil=>right;rw[hs] at hl;simp at hl;omega
    |cons c r=>
     left
     rw[hs] at hp;show(c==36)=false
     cases hc:(c==36) with
     |false=>rfl
     |true=>
      obtain rfl:c=36:=eq_of_beq hc
      revert hp
      unfold Lib.hasPrefix
      simp
   rcases this with h|h
   ·rw[h];simp
   ·rw[decide_eq_false (show ¬2≤s.size by omega)];simp
  |true=>
   rw[if_pos ⟨h32,rfl⟩]
   have hd:dolB s=true∧0<s.size:=by
    unfold dolB
    cases hs:toL s with
    |nil=>rw[hs] at hp;cases hp
    |cons c r=>
     rw[hs] at hp hl;refine⟨?_,by simp at hl;omega⟩;show(c==36)=true
     cases hc:(c==36) with
     |true=>rfl
     |false=>
      revert hp
      unfold Lib.hasPrefix
      simp
      intro h;rw[h] at hc;simp at hc
   have hid:zC s=false:=by
    have hd2:=hd.2;have h36:s[0]=36:=eq_of_beq ((agI hd2).symm.trans hd.1);unfold zC
    have:s.data.getD 0 0=36:=by
     have e:s.data.getD 0 0=s[0]:=by
      have:=hd.2;simp only[Array.getD_eq_getD_getElem?];rw[Array.getElem?_eq_getElem (show 0<s.data.size from this)]
      rfl
     rw[e,h36]
    rw[this];have:yi (36:UInt8).toNat=false:=by decide
    rw[this]
    simp
   rw[hid,hd.1,Bool.false_or,Bool.true_and]
   by_cases h2:2≤s.size
   ·rw[decide_eq_true h2];rfl
   ·rw[decide_eq_false h2]
    have:(toL s).drop 1=[]:=List.drop_eq_nil_of_le (by omega);rw[this];rfl
 ·rw[if_neg (fun h=>h32 h.1),decide_eq_false h32]
  simp
theorem ki(s:ByteArray)(w:World)(hs:s.size≤9223372036854775807):Calls Tryz.prog 266 #[.string s] w fun e w'=>e = .returned (.bool (natL (toL s)))∧w=w':=by
 obtain⟨r,HR⟩:∃r,Hid (r=natL (toL s)):=⟨_,v9h rfl⟩
 rw[←HR.out];have HR1:Hid (r=((toL s).all digU&&(decide ((toL s).length=1)||decide (1<(toL s).length) && !((toL s).headD 0==48)))):=by show r=_;rw[HR.out,←air];rfl
 have hl:=qr s
 have HI:Hid (∀i (h:i<s.size),(s[i].toNat<48∨57<s[i].toNat)→r=false):=fun i h hp=>by
  have:(toL s).all digU=false:=by
   rw[Bool.eq_false_iff];intro ha;have:=kt.1 ha i h;unfold digU at this;simp only[Bool.and_eq_true,decide_eq_true_eq] at this
   omega
  rw[HR1.out,this];rfl
 have HE0:Hid ((∀i (h:i<s.size),digU s[i]=true)→r=(decide (s.size=1)||decide (1<s.size) && !((toL s).headD 0==48))):=fun h=>by
  rw[HR1.out,kt.2 h,hl];rfl
 clear HR HR1 hl
 go_enter Tryz.func266,Tryz.ntmps266
 go_wp2_with fail
 go_loop [3] (fun i=>∃k:Nat,k≤s.size∧i = .int .i64 k∧Hid (∀i (h:i<s.size),i<k→digU s[i]=true)) (fun i=>s.size-(intOf i).toNat)
 case atStart=>exact⟨0,Nat.zero_le _,rfl,fun i h hi=>by omega⟩
 case round=>
  obtain⟨k,hk,rfl,HN⟩:=hrel
  by_cases hlt:k<s.size
  ·by_cases q1:s[k].toNat<48
   ·have HB:=v9h (HI.out k hlt (Or.inl q1))
    go_wp2_with fail
    go_ret
    exact⟨by rw[HB.out];rfl,rfl⟩
   ·by_cases q2:57<s[k].toNat
    ·have HB:=v9h (HI.out k hlt (Or.inr q2))
     go_wp2_with fail
     go_ret
     exact⟨by rw[HB.out];rfl,rfl⟩
    ·have HE:Hid (∀i (h:i<s.size),i<k+1→digU s[i]=true):=fun i h hi=>by
      by_cases e:i=k
      ·subst e;unfold digU;rw[decide_eq_true (by omega),decide_eq_true (by omega)];rfl
      ·exact HN.out i h (by omega)
     go_wp2_with fail
     go_round
     case rel=>exact⟨k+1,by omega,by go_num,HE⟩
     case measure=>simp[intOf];omega
  ·have HR2:=v9h (HE0.out fun i h=>HN.out i h (by omega))
   clear HE0 HN HI
   by_cases h1:s.size=1
   ·have HB:Hid (r=true):=by show r=true;rw[HR2.out,decide_eq_true h1];rfl
    have t1:((s.size:Int)==1)=true:=by rw[h1];rfl
    clear h1
    go_wp2_with fail
    go_ret
    exact⟨by rw[HB.out];rfl,rfl⟩
   have t1:((s.size:Int)==1)=false:=by rw[beq_eq_false_iff_ne];omega
   by_cases h2:1<s.size
   ·have h2I:(1:Int)<s.size:=by omega
    have hs0:0<s.size:=by omega
    have HH:Hid (((toL s).headD 0==48)=(s[0]==48)):=by
     show _=_;have hl:=qr s
     cases hs:toL s with
     |nil=>rw[hs] at hl;simp at hl;omega
     |cons c q=>
      have hg:(toL s)[0]'(by omega)=s[0]:=by unfold toL;simp[ByteArray.getElem_eq_getElem_data]
      simp only[hs,List.getElem_cons_zero] at hg;rw[hg];rfl
    have HR3:Hid (r = !(s[0]==48)):=by show r=_;rw[HR2.out,decide_eq_false h1,decide_eq_true h2,HH.out];rfl
    have e8:=aar s[0] 48;have e9:(((s[0].toNat:Nat):Int) != 48) = !(s[0]==48):=by rw[bne];exact congrArg (!·) e8
    clear HR2 HH h1 e8;generalize(s[0]==48)=q at *
    cases q with
    |true=>
     have e9':(((s[0].toNat:Nat):Int) != 48)=false:=e9;clear e9
     go_wp2_with fail
     go_ret
     exact⟨by rw[HR3.out];rfl,rfl⟩
    |false=>
     have e9':(((s[0].toNat:Nat):Int) != 48)=true:=e9;clear e9
     go_wp2_with fail
     go_ret
     exact⟨by rw[HR3.out];rfl,rfl⟩
   ·have h2I:¬(1:Int)<s.size:=by omega
    have HB:Hid (r=false):=by show r=false;rw[HR2.out,decide_eq_false h1,decide_eq_false h2];rfl
    clear h1
    go_wp2_with fail
    go_ret
    exact⟨by rw[HB.out];rfl,rfl⟩
def jD(st:Bool)(i:Nat)(n:ByteArray):Bool:=decide (i=0)&&(!st&&(n.toList==[116,104,105,115]))
def badN(n:ByteArray):Bool:=decide (n.size<2)||(decide (32<n.size)||(!dolB n || !natL ((toL n).drop 1)))
theorem aix(st:Bool)(i:Nat)(v:Fld):vrB1 st i v=(!jD st i v.name&&(!zC v.name&&badN v.name)):=by
 unfold vrB1 jD badN;rw[ahu];have e1:decide (0<i) = !decide (i=0):=by by_cases h:i=0<;>simp[h];omega
 have e2:decide (2≤v.name.size) = !decide (v.name.size<2):=by
  by_cases h:v.name.size<2
  ·rw[decide_eq_true h,decide_eq_false (by omega)];rfl
  ·rw[decide_eq_false h,decide_eq_true (by omega)];rfl
 have e3:decide (v.name.size≤32) = !decide (32<v.name.size):=by
  by_cases h:32<v.name.size
  ·rw[decide_eq_true h,decide_eq_false (by omega)];rfl
  ·rw[decide_eq_false h,decide_eq_true (by omega)];rfl
 rw[e1,e2,e3];generalize zC v.name=a;generalize decide (v.name.size<2)=b;generalize decide (32<v.name.size)=c;generalize dolB v.name=d;generalize natL ((toL v.name).drop 1)=e;generalize(v.name.toList==[116,104,105,115])=g;generalize decide (i=0)=h
 revert a b c d e g h st
 decide
def badT(cs:List Cls)(s:ByteArray):Bool:= !(s.toList==[110,117,108,108]) && !isTy cs s
theorem aiy(cs:List Cls)(v:Fld):vrB2 cs v=badT cs v.typ:=by
 unfold vrB2 badT isTy
 have e:decide (fnd cs v.typ<0) = !decide (0≤fnd cs v.typ):=by
  by_cases h:fnd cs v.typ<0
  ·rw[decide_eq_true h,decide_eq_false (by omega)];rfl
  ·rw[decide_eq_false h,decide_eq_true (by omega)];rfl
 rw[e];generalize(v.typ.toList==[105,110,116])=a;generalize(v.typ.toList==[110,117,108,108])=b;generalize decide (0≤fnd cs v.typ)=c
 revert a b c
 decide
theorem ad7(cs:List Cls)(f:Fun)(AH AV AC:Option Addr)(cH cV cC:Nat)(w:World)(H:Hid (FnR w cs f AH AV AC cH)) :
  Calls Tryz.prog 199 #[.agg #[.slice AH cs.length cH],.agg #[.string f.cls,.string f.name,.bool f.static,.int .i64 f.nparams,.slice AV f.vars.length cV,.string f.result,.slice AC f.code.length cC]] w fun e w'=>e = .returned (.int .i64 (frst (vrF cs f) f.vars.length))∧Below w.heap.size w w':=by
 obtain⟨r,HR⟩:∃r,Hid (r=frst (vrF cs f) f.vars.length):=⟨_,v9h rfl⟩
 rw[←HR.out];have hvl:=H.out.hvl
 go_enter Tryz.func199,Tryz.ntmps199
 go_upto_region 1 with fail
 generalize hW:World.alloc _ _=W1 at *
 have hb1:Below w.heap.size w W1:=by rw[←hW];exact(by repeat(first|assumption|exact v9r|apply zc|apply zd|apply zg|apply ze|apply zi))
 have bh:Box W1 w.heap.size [.slice AH cs.length cH] 29:=by rw[←hW];exact(Box.new _ _ _).alloc _
 have bf:Box W1 (w.heap.size+1) [.string f.cls,.string f.name,.bool f.static,.int .i64 f.nparams,.slice AV f.vars.length cV,.string f.result,.slice AC f.code.length cC] 42:=by rw[←hW];exact Box.at (by simp)
 clear hW
 go_wp2_with fail
 go_loopw [5] (fun i wr=>∃k:Nat,k≤f.vars.length∧i = .int .i64 k∧Hid (frst (vrF cs f) k=0)∧Below W1.heap.size W1 wr) (fun i _=>f.vars.length-(intOf i).toNat)
 case atStart=>exact⟨0,Nat.zero_le _,rfl,v9h rfl,v9r⟩
 case round=>
  obtain⟨k,hk,rfl,HZ,hbr⟩:=hrel;have hbw:=za hb1 hbr;have bhr:=bh.mono hbr;have bfr:=bf.mono hbr;have f4:=bfr.cell 4 rfl;have fl:=bfr.lt
  by_cases hlt:k<f.vars.length
  ·have hvo:=H.out.hvo _ (List.getElem_mem hlt)
   have HF:Hid (vrF cs f k=if vrB1 f.static k f.vars[k] then 5 else if vrB2 cs f.vars[k] then 8 else 0):=by show _=_;rw[adA hlt,ab2]
   have HHIT:=v9h (fun(e:Int) (h1:vrF cs f k=e) (he:e≠0)=>HR.out.trans ((jk (f:=vrF cs f) HZ.out (k:=k) (n:=f.vars.length) (by rw[h1];exact he) hlt).trans h1));obtain⟨bV,oV,hAV,hbV,v0,v1⟩:=(H.out.hv.mono hbw).fld_at hlt;subst hAV;rw[aix,aiy] at HF;generalize f.vars[k]=v at *
   go_upto_region 4 with fail
   refine zm (by kernel_rfl) (by kernel_rfl) ?_
   try simp only[List.append_eq,List.cons_append,List.nil_append]
   repeat(go_big_quiet_step (fail))
   refine wpQuiet_nil ?_;rintro _ ⟨y,rfl⟩;have hbw3:=za hbw y.h;have hbr3:=za hbr y.h;have bh3:=bhr.mono y.h;have bf3:=bfr.mono y.h;obtain⟨W3,hW3⟩:∃W3,W3=y.W:=⟨_,rfl⟩
   rw[←hW3] at hbw3 hbr3 bh3 bf3 ⊢;clear hW3 v0 v1 hbV f4 fl bhr bfr;have f2:=bf3.cell 2 rfl;have fl:=bf3.lt
   go_upto_region 5 with fail
   go_cut [8] (fun s wx=>s = .bool (jD f.static k v.name)∧W3=wx)
   case first=>
    by_cases z0:k=0
    ·rcases bspU (f.static) with zs|zs
     ·rcases bspU (v.name.toList==[116,104,105,115]) with zn|zn
      ·have HB:Hid (jD f.static k v.name=false):=by show _=_;unfold jD;simp[z0,zs,zn]
       rw[zs] at f2;have t0:((k:Int)==0)=true:=by rw[z0];rfl
       clear z0
       go_wp2_with fail
       go_meet
       exact⟨by rw[HB.out],rfl⟩
      ·have HB:Hid (jD f.static k v.name=true):=by show _=_;unfold jD;simp[z0,zs,zn]
       rw[zs] at f2;have t0:((k:Int)==0)=true:=by rw[z0];rfl
       clear z0
       go_wp2_with fail
       go_meet
       exact⟨by rw[HB.out],rfl⟩
     ·have HB:Hid (jD f.static k v.name=false):=by show _=_;unfold jD;simp[z0,zs]
      rw[zs] at f2;have t0:((k:Int)==0)=true:=by rw[z0];rfl
      clear z0
      go_wp2_with fail
      go_meet
      exact⟨by rw[HB.out],rfl⟩
    ·have HB:Hid (jD f.static k v.name=false):=by show _=_;unfold jD;simp[z0]
     have t0:((k:Int)==0)=false:=by rw[beq_eq_false_iff_ne];omega
     clear z0
     go_wp2_with fail
     go_meet
     exact⟨by rw[HB.out],rfl⟩
   case rest=>
   obtain⟨rfl,rfl⟩:=hcut;clear f2 fl;obtain⟨th,HTH⟩:∃th,Hid (th=jD f.static k v.name):=⟨_,v9h rfl⟩
   rw[←HTH.out] at HF ⊢;have HID:=v9h (fun W=>jV v.name W (jJ hvo.1));obtain⟨ib,HIB⟩:∃ib,Hid (ib=zC v.name):=⟨_,v9h rfl⟩
   rw[←HIB.out] at HID HF
   go_upto_region 6 with fail
   go_cut [66] (fun s wx=>s = .bool (!th&&(!ib&&badN v.name))∧Below W3.heap.size W3 wx)
   case first=>
    cases th with
    |true=>
     go_wp2_with fail
     go_meet
     exact⟨by first|rfl|simp,v9r⟩
    |false=>
    cases ib with
    |true=>
     go_wp2_with fail
     refine(HID.out _).mono ?_;rintro e w5 ⟨rfl,hq5⟩
     go_wp2_with fail
     go_meet
     exact⟨by first|rfl|simp,hq5⟩
    |false=>
    by_cases s2:v.name.size<2
    ·have HB:Hid (badN v.name=true):=by show _=_;unfold badN;rw[decide_eq_true s2];rfl
     have s2I:(v.name.size:Int)<2:=by omega
     go_wp2_with fail
     refine(HID.out _).mono ?_;rintro e w5 ⟨rfl,hq5⟩
     go_wp2_with fail
     go_meet
     exact⟨by rw[HB.out];rfl,hq5⟩
    have s2I:¬(v.name.size:Int)<2:=by omega
    by_cases s3:32<v.name.size
    ·have HB:Hid (badN v.name=true):=by show _=_;unfold badN;rw[decide_eq_false s2,decide_eq_true s3];rfl
     have s3I:(32:Int)<v.name.size:=by omega
     go_wp2_with fail
     refine(HID.out _).mono ?_;rintro e w5 ⟨rfl,hq5⟩
     go_wp2_with fail
     go_meet
     exact⟨by rw[HB.out];rfl,hq5⟩
    have s3I:¬(32:Int)<v.name.size:=by omega
    have hs0:0<v.name.size:=by omega
    have hs1:1≤v.name.size:=by omega
    have HDL:=v9h (agI hs0);have HB0:Hid (badN v.name=(!(v.name[0]==36) || !natL ((toL v.name).drop 1))):=by show _=_;unfold badN;rw[decide_eq_false s2,decide_eq_false s3,HDL.out];rfl
    have e8:=aar v.name[0] 36;have e9:(((v.name[0].toNat:Nat):Int) != 36) = !(v.name[0]==36):=by rw[bne];exact congrArg (!·) e8
    clear e8 HDL;generalize(v.name[0]==36)=q at *
    cases q with
    |false=>
     have e9':(((v.name[0].toNat:Nat):Int) != 36)=true:=e9;clear e9
     go_wp2_with fail
     refine(HID.out _).mono ?_;rintro e w5 ⟨rfl,hq5⟩
     go_wp2_with fail
     go_meet
     exact⟨by rw[HB0.out];rfl,hq5⟩
    |true=>
     have e9':(((v.name[0].toNat:Nat):Int) != 36)=false:=e9;clear e9
     have HNT:Hid (∀W,Calls Tryz.prog 266 #[.string (v.name.extract 1 v.name.size)] W fun e w'=>e = .returned (.bool (natL ((toL v.name).drop 1)))∧W=w'):=fun W=>by
      have hsz:(v.name.extract 1 v.name.size).size≤9223372036854775807:=by
       have:=qr (v.name.extract 1 v.name.size);rw[xI,List.length_drop,qr] at this
       omega
      rw[←xI];exact ki _ W hsz
     generalize natL ((toL v.name).drop 1)=nb at *
     go_wp2_with fail
     refine(HID.out _).mono ?_;rintro e w5 ⟨rfl,hq5⟩
     go_wp2_with fail
     refine(HNT.out _).mono ?_;rintro e w6 ⟨rfl,rfl⟩
     go_wp2_with fail
     go_meet
     exact⟨by first|(rw[HB0.out];rfl)|(rw[HB0.out,decide_eq_false (show ¬(v.name.size:Int)<2 by omega),decide_eq_false (show ¬(32:Int)<v.name.size by omega)];rfl),hq5⟩
   case rest=>
   obtain⟨rfl,hq5⟩:=hcut;have hbw5:=za hbw3 hq5;have hbr5:=za hbr3 hq5;have bh5:=bh3.mono hq5;have bf5:=bf3.mono hq5;clear hq5 bh3 bf3 HTH HIB HID;generalize(!th&&(!ib&&badN v.name))=b1 at *
   cases b1 with
   |true=>
    have HB:Hid (r=5):=HHIT.out 5 (by rw[HF.out];rfl) (by decide)
    go_wp2_with fail
    go_ret
    exact⟨by rw[HB.out];rfl,hbw5⟩
   |false=>
   have HF2:Hid (vrF cs f k=if badT cs v.typ then 8 else 0):=by show _=_;rw[HF.out];rfl
   clear HF;have h0:=bh5.cell 0 rfl;have hlh:=bh5.lt
   go_upto_region 8 with fail
   go_cut [74] (fun s wx=>s = .bool (badT cs v.typ)∧Below wc.heap.size wc wx)
   case first=>
    have HTY:=v9h (xd AH cH cs v.typ _ H.out.hl (H.out.hs.mono hbw5))
    rcases bspU (v.typ.toList==[110,117,108,108]) with hu|hu
    ·have hu':(v.typ.toList != [110,117,108,108])=true:=by rw[bne,hu];rfl
     have HB:Hid (badT cs v.typ = !isTy cs v.typ):=by show _=_;unfold badT;rw[hu];rfl
     generalize isTy cs v.typ=q at *
     go_wp2_with fail
     refine HTY.out.mono ?_;rintro e w6 ⟨rfl,hq6⟩
     go_wp2_with fail
     go_meet
     exact⟨by rw[HB.out],hq6⟩
    ·have hu':(v.typ.toList != [110,117,108,108])=false:=by rw[bne,hu];rfl
     have HB:Hid (badT cs v.typ=false):=by show _=_;unfold badT;rw[hu];rfl
     go_wp2_with fail
     go_meet
     exact⟨by rw[HB.out],v9r⟩
   case rest=>
   obtain⟨rfl,hq6⟩:=hcut;have hbw6:=za hbw5 hq6;have hbr6:=za hbr5 hq6;clear h0 hlh;generalize badT cs v.typ=b2 at *
   cases b2 with
   |true=>
    have HB:Hid (r=8):=HHIT.out 8 (by rw[HF2.out];rfl) (by decide)
    go_wp2_with fail
    go_ret
    exact⟨by rw[HB.out];rfl,hbw6⟩
   |false=>
    have HN:=v9h (yz HZ.out (show vrF cs f k=0 by rw[HF2.out];rfl))
    go_wp2_with fail
    go_roundw
    case rel=>exact⟨k+1,by omega,by go_num,HN,hbr6⟩
    case measure=>simp[intOf];omega
  ·have HB:Hid (r=0):=by
    have he:k=f.vars.length:=by omega
    show r=0;rw[HR.out,←he];exact HZ.out
   go_wp2_with fail
   go_ret
   exact⟨by rw[HB.out];rfl,hbw⟩
end Go.Proofs.YtmhdambkchlilaaGreatDoor
