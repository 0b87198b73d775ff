/- Chapter 13: the types of variables: typer.of, isInt, isClass, typed. Chapter 13: typer.fits: what it returns. Chapter 13: the search of a static method's name (the closure of typer.static). Chapter 13: typer.static: the signature of a static method. -/
import Derived.Test.YtmhdambkchlilaaGreatDoorJUe
namespace Go.Proofs.YtmhdambkchlilaaGreatDoor
open Go.RowKit
set_option linter.unusedVariables false
set_option maxRecDepth 100000
set_option maxHeartbeats 2000000
theorem ahh{vars:List Fld}{k:Nat}(h:k<vars.length):tyOf vars (k:Int)=vars[k].typ:=by
 unfold tyOf;rw[Int.toNat_natCast,List.getElem?_eq_getElem h];rfl
theorem yU(cs:List Cls)(f:Fun)(AH AV AC:Option Addr)(cH cV cC:Nat)(v:Int)(w:World)(hv:varB f.vars.length v=true)(hs:Sl Lay.fld w AV f.vars) :
  Calls Tryz.prog 232 #[.agg #[.slice AH cs.length cH,.string f.cls,.string f.name,.bool f.static,.int .i64 f.nparams,.slice AV f.vars.length cV,.string f.result,.slice AC f.code.length cC],.int .i64 v] w fun e w'=>e = .returned (.string (tyOf f.vars v))∧Below w.heap.size w w':=by
 unfold varB at hv;simp only[Bool.and_eq_true,decide_eq_true_eq] at hv;obtain⟨k,rfl⟩:∃k:Nat,v=k:=⟨v.toNat,by omega⟩
 have hk:k<f.vars.length:=by omega
 have HB:=v9h (ahh hk);obtain⟨b,o,rfl,hb,d0,d1⟩:=hs.fld_at hk;clear hv
 go_enter Tryz.func232,Tryz.ntmps232
 go_wp2_with fail
 go_ret
 exact⟨by rw[HB.out];rfl,(by repeat(first|assumption|exact v9r|apply zc|apply zd|apply zg|apply ze|apply zi))⟩
theorem yG(cs:List Cls)(f:Fun)(AH AV AC:Option Addr)(cH cV cC:Nat)(v:Int)(w:World)(hv:varB f.vars.length v=true)(hs:Sl Lay.fld w AV f.vars) :
  Calls Tryz.prog 230 #[.agg #[.slice AH cs.length cH,.string f.cls,.string f.name,.bool f.static,.int .i64 f.nparams,.slice AV f.vars.length cV,.string f.result,.slice AC f.code.length cC],.int .i64 v] w fun e w'=>e = .returned (.bool (zu (tyOf f.vars v)))∧Below w.heap.size w w':=by
 have hb0:Below w.heap.size w (w.alloc (.cells #[.slice AH cs.length cH,.string f.cls,.string f.name,.bool f.static,.int .i64 f.nparams,.slice AV f.vars.length cV,.string f.result,.slice AC f.code.length cC] 257)):=(by repeat(first|assumption|exact v9r|apply zc|apply zd|apply zg|apply ze|apply zi))
 have HB:Hid (zu (tyOf f.vars v)=((tyOf f.vars v).toList==[105,110,116])):=rfl
 go_enter Tryz.func230,Tryz.ntmps230
 go_wp2_with fail
 refine(yU cs f AH AV AC cH cV cC v _ hv (hs.mono hb0)).mono ?_;rintro e w1 ⟨rfl,hb1⟩
 go_wp2_with fail
 go_ret
 exact⟨by rw[HB.out];rfl,za hb0 hb1⟩
theorem js(cs:List Cls)(f:Fun)(AH AV AC:Option Addr)(cH cV cC:Nat)(s:ByteArray)(w:World)(hl:cs.length≤9223372036854775807)(hs:Sl Lay.cls w AH cs) :
  Calls Tryz.prog 234 #[.agg #[.slice AH cs.length cH,.string f.cls,.string f.name,.bool f.static,.int .i64 f.nparams,.slice AV f.vars.length cV,.string f.result,.slice AC f.code.length cC],.string s] w fun e w'=>e = .returned (.bool (zW cs s))∧Below w.heap.size w w':=by
 have hb0:Below w.heap.size w (w.alloc (.cells #[.slice AH cs.length cH,.string f.cls,.string f.name,.bool f.static,.int .i64 f.nparams,.slice AV f.vars.length cV,.string f.result,.slice AC f.code.length cC] 257)):=(by repeat(first|assumption|exact v9r|apply zc|apply zd|apply zg|apply ze|apply zi))
 cases hq:(s.toList==[105,110,116]) with
 |true=>
  have HB:Hid (zW cs s=false):=by show _=_;unfold zW zu wInt;rw[hq];rfl
  go_enter Tryz.func234,Tryz.ntmps234
  go_wp2_with fail
  go_ret
  exact⟨by rw[HB.out];rfl,hb0⟩
 |false=>
  have HB:Hid (zW cs s=decide (0≤fnd cs s)):=by show _=_;unfold zW zu wInt;rw[hq];rfl
  go_enter Tryz.func234,Tryz.ntmps234
  go_wp2_with fail
  refine(adt AH cH cs s _ hl (hs.mono hb0)).mono ?_;rintro e w1 ⟨rfl,hb1⟩
  go_wp2_with fail
  go_ret
  exact⟨by rw[HB.out];rfl,za hb0 hb1⟩
theorem zP(b:Bool)(w:World):Calls Tryz.prog 229 #[.bool b] w fun e w'=>e = .returned (.int .i64 (zM b))∧w=w':=by
 cases b with
 |true=>
  go_enter Tryz.func229,Tryz.ntmps229
  go_wp2_with fail
  go_ret
  exact⟨rfl,rfl⟩
 |false=>
  go_enter Tryz.func229,Tryz.ntmps229
  go_wp2_with fail
  go_ret
  exact⟨rfl,rfl⟩
theorem qo(cs:List Cls)(f:Fun)(AH AV AC:Option Addr)(cH cV cC:Nat)(p q:ByteArray)(w:World)(hl:cs.length≤8796093022208)(hcc:cs.length≤cH)(hs:Sl Lay.cls w AH cs)(hok:Hid (qq cs))(hp:zG p) :
  Calls Tryz.prog 231 #[.agg #[.slice AH cs.length cH,.string f.cls,.string f.name,.bool f.static,.int .i64 f.nparams,.slice AV f.vars.length cV,.string f.result,.slice AC f.code.length cC],.string p,.string q] w fun e w'=>e = .returned (.bool (zB cs p q))∧Below w.heap.size w w':=by
 have hb0:Below w.heap.size w (w.alloc (.cells #[.slice AH cs.length cH,.string f.cls,.string f.name,.bool f.static,.int .i64 f.nparams,.slice AV f.vars.length cV,.string f.result,.slice AC f.code.length cC] 257)):=(by repeat(first|assumption|exact v9r|apply zc|apply zd|apply zg|apply ze|apply zi))
 obtain⟨r,HR⟩:∃r,Hid (r=zB cs p q):=⟨_,v9h rfl⟩
 rw[←HR.out]
 cases t1:(p.toList==q.toList) with
 |true=>
  have HB:Hid (r=true):=by show r=true;rw[HR.out];unfold zB;rw[t1];rfl
  go_enter Tryz.func231,Tryz.ntmps231
  go_wp2_with fail
  go_ret
  exact⟨by rw[HB.out];rfl,hb0⟩
 |false=>
 by_cases hn:(p.toList==[110,117,108,108])=true∧(q.toList==[105,110,116])=false
 ·obtain⟨t2,t3⟩:=hn
  have t3':(q.toList != [105,110,116])=true:=by rw[bne,t3];rfl
  have HB:Hid (r=true):=by show r=true;rw[HR.out];unfold zB zu jW wInt;rw[t1,t2,t3];rfl
  go_enter Tryz.func231,Tryz.ntmps231
  go_wp2_with fail
  go_ret
  exact⟨by rw[HB.out];rfl,hb0⟩
 have HR2:Hid (r=(zW cs p&&zW cs q&&hasS (zx cs p) q)):=by
  show r=_;rw[HR.out];unfold zB zu jW wInt;rw[t1]
  cases t2:(p.toList==[110,117,108,108]) with
  |false=>rfl
  |true=>cases t3:(q.toList==[105,110,116]) with
   |true=>rfl
   |false=>exact absurd ⟨t2,t3⟩ hn
 have hw:(p.toList==[110,117,108,108])=false∨((p.toList==[110,117,108,108])=true∧(q.toList==[105,110,116])=true):=by
  cases t2:(p.toList==[110,117,108,108]) with
  |false=>exact Or.inl rfl
  |true=>cases t3:(q.toList==[105,110,116]) with
   |true=>exact Or.inr ⟨rfl,rfl⟩
   |false=>exact absurd ⟨t2,t3⟩ hn
 clear hn
 rcases hw with t2|⟨t2,t3⟩
 all_goals
  go_enter Tryz.func231,Tryz.ntmps231
  go_wp2_with fail
  have bx:=Box.new w [.slice AH cs.length cH,.string f.cls,.string f.name,.bool f.static,.int .i64 f.nparams,.slice AV f.vars.length cV,.string f.result,.slice AC f.code.length cC] 257;refine(js cs f AH AV AC cH cV cC p _ (by omega) (hs.mono hb0)).mono ?_;rintro e w1 ⟨rfl,hb1⟩;have hbw1:=za hb0 hb1;have bx1:=bx.mono hb1
  cases hc1:zW cs p with
  |false=>
   have HB:Hid (r=false):=by show r=false;rw[HR2.out,hc1];rfl
   go_wp2_with fail
   go_ret
   exact⟨by rw[HB.out];rfl,hbw1⟩
  |true=>
   have f0:=bx1.cell 0 rfl;have f1:=bx1.cell 1 rfl;have f2:=bx1.cell 2 rfl;have f3:=bx1.cell 3 rfl;have f4:=bx1.cell 4 rfl;have f5:=bx1.cell 5 rfl;have f6:=bx1.cell 6 rfl;have f7:=bx1.cell 7 rfl;have fl:=bx1.lt
   go_wp2_with fail
   refine(js cs f AH AV AC cH cV cC q _ (by omega) (hs.mono hbw1)).mono ?_;rintro e w2 ⟨rfl,hb2⟩;have hbw2:=za hbw1 hb2;have bx2:=bx1.mono hb2;clear f0 f1 f2 f3 f4 f5 f6 f7 fl
   cases hc2:zW cs q with
   |false=>
    have HB:Hid (r=false):=by show r=false;rw[HR2.out,hc1,hc2];rfl
    go_wp2_with fail
    go_ret
    exact⟨by rw[HB.out];rfl,hbw2⟩
   |true=>
    have HB:Hid (r=hasS (zx cs p) q):=by show r=_;rw[HR2.out,hc1,hc2];rfl
    have f0:=bx2.cell 0 rfl;have fl:=bx2.lt
    go_wp2_with fail
    refine(acr AH cH cs p q _ hl hcc (hs.mono hbw2) hok hp).mono ?_;rintro e w3 ⟨rfl,hb3⟩
    go_wp2_with fail
    go_ret
    exact⟨by rw[HB.out];rfl,za hbw2 hb3⟩
theorem aew(B:Nat)(m:Sg)(A2:Option Addr)(c2:Nat)(s:ByteArray)(w:World)(hB:B<w.heap.size)(hc:w.cell? ⟨B,6,none⟩=some (.string s)) :
  Calls Tryz.prog 289 #[.agg #[.string m.name,.bool m.static,.slice A2 m.params.length c2,.string m.result],.pointer (some ⟨B,0,none⟩)] w fun e w'=>e = .returned (.bool (isSg s m))∧Below w.heap.size w w':=by
 go_enter Tryz.func289,Tryz.ntmps289
 go_wp2_with fail
 go_ret
 exact⟨rfl,zc (v9r)⟩
theorem aex(A:Option Addr)(c B:Nat)(l:List Sg)(s:ByteArray)(w:World)(hl:l.length≤9223372036854775807)(hs:Sl Lay.sg w A l)(hB:B<w.heap.size)(hc:w.cell? ⟨B,6,none⟩=some (.string s)) :
  Calls Tryz.prog 219 #[.slice A l.length c,.func (.func 289) #[] #[.pointer (some ⟨B,0,none⟩)]] w fun e w'=>e = .returned (.int .i64 (idxI (isSg s) l))∧Below w.heap.size w w':=by
 go_enter Tryz.func219,Tryz.ntmps219
 go_wp2_with fail
 go_loopw [5,8] (fun j i wr=>∃k:Nat,k≤l.length∧i = .int .i64 k∧Hid (∀i (hi:i<k) (hi2:i<l.length),isSg s l[i]=false)∧Below w.heap.size w wr) (fun _ i _=>l.length-(intOf i).toNat)
 case atStart=>exact⟨0,Nat.zero_le _,rfl,fun i hi=>by omega,v9r⟩
 case round=>
  obtain⟨k,hk,rfl,HN,hbw⟩:=hrel
  by_cases hlt:k<l.length
  ·obtain⟨b,o,A2,c2,rfl,hb,d0,d1,d2,d3,hc2,hs2⟩:=(hs.mono hbw).sg_at hlt
   go_wp2_with fail
   refine(aew B l[k] A2 c2 s _ (Nat.lt_of_lt_of_le hB hbw.size) (by rw[hbw.cell hB];exact hc)).mono ?_;rintro e w1 ⟨rfl,hb1⟩
   cases hq:isSg s l[k] with
   |true=>
    have HE:=v9h (qY hlt (fun i hi=>HN.out i hi (by omega)) hq);clear hq
    go_wp2_with fail
    go_ret
    exact⟨by rw[HE.out];rfl,za hbw hb1⟩
   |false=>
    have HE:Hid (∀i (hi:i<k+1) (hi2:i<l.length),isSg s l[i]=false):=fun i hi hi2=>by
     by_cases e:i=k
     ·subst e;exact hq
     ·exact HN.out i (by omega) hi2
    clear hq
    go_wp2_with fail
    go_roundw
    case rel=>exact⟨k+1,by omega,by go_num,HE,za hbw hb1⟩
    case measure=>simp[intOf];omega
  ·have HE:=v9h (qC (p:=isSg s) (l:=l) (fun i hi=>HN.out i (by omega) hi))
   go_wp2_with fail
   go_ret
   exact⟨by rw[HE.out];rfl,hbw⟩
structure ajt(w':World)(e:Ending)(o:Option Sg):Prop where
 no:o=none→e = .returned (.tuple #[.agg #[.string ByteArray.empty,.bool false,.slice none 0 0,.string ByteArray.empty],.bool false])
 yes:∀g,o=some g→∃(A:Option Addr) (c:Nat),e = .returned (.tuple #[.agg #[.string g.name,.bool g.static,.slice A g.params.length c,.string g.result],.bool true])∧Sl Lay.str w' A g.params∧g.params.length≤c∧g.static=true
theorem ahi{cs:List Cls}{x:Ins}{j:Nat}(h:fnd cs x.cls=j)(hj:j<cs.length):qv cs x=if idxI (isSg x.name) cs[j].methods<0 then none else match cs[j].methods[(idxI (isSg x.name) cs[j].methods).toNat]? with
  |some m=>if m.static then some m else none
  |none=>none:=by
 unfold qv;rw[h,if_neg (by omega),Int.toNat_natCast,List.getElem?_eq_getElem hj]
 rfl
theorem xb(A:Option Addr)(c:Nat)(l:List Cls)(s:ByteArray)(w:World)(hl:l.length≤9223372036854775807)(hs:Sl Lay.cls w A l) :
  Calls Tryz.prog 152 #[.agg #[.slice A l.length c],.string s] w fun e w'=>e = .returned (.int .i64 (fnd l s))∧Below w.heap.size w w':=adt A c l s w hl hs
theorem ac5(cs:List Cls)(f:Fun)(x:Ins)(AH AV AC AI:Option Addr)(cH cV cC cI:Nat)(w:World)(hl:cs.length≤8796093022208)(hs:Sl Lay.cls w AH cs)(hlk:Hid (yp cs)) :
  Calls Tryz.prog 236 #[.agg #[.slice AH cs.length cH,.string f.cls,.string f.name,.bool f.static,.int .i64 f.nparams,.slice AV f.vars.length cV,.string f.result,.slice AC f.code.length cC],.agg #[.int .i64 x.op,.int .i64 x.dst,.int .i64 x.a,.int .i64 x.b,.int .i64 x.n,.string x.cls,.string x.name,.slice AI x.args.length cI,.int .i64 x.jmp,.int .i64 x.hnd]] w fun e w'=>ajt w' e (qv cs x)∧Below w.heap.size w w':=by
 obtain⟨o,HO⟩:∃o,Hid (o=qv cs x):=⟨_,v9h rfl⟩
 rw[←HO.out];have hfb:=yb cs x.cls
 go_enter Tryz.func236,Tryz.ntmps236
 go_wp2_with fail
 generalize hW:World.alloc _ _=W1 at *
 have hb1:Below w.heap.size w W1:=by rw[←hW];exact(by repeat(first|assumption|exact v9r|apply zc|apply zd|apply zg|apply ze|apply zi))
 have bt:Box W1 w.heap.size [.slice AH cs.length cH,.string f.cls,.string f.name,.bool f.static,.int .i64 f.nparams,.slice AV f.vars.length cV,.string f.result,.slice AC f.code.length cC] 257:=by rw[←hW];exact(by repeat(first|(refine Box.at ?_;(simp;done))|apply Box.drew|apply Box.alloc|assumption))
 have bx:Box W1 (w.heap.size+1) [.int .i64 x.op,.int .i64 x.dst,.int .i64 x.a,.int .i64 x.b,.int .i64 x.n,.string x.cls,.string x.name,.slice AI x.args.length cI,.int .i64 x.jmp,.int .i64 x.hnd] 59:=by rw[←hW];exact(by repeat(first|(refine Box.at ?_;(simp;done))|apply Box.drew|apply Box.alloc|assumption))
 have bs:Box W1 (w.heap.size+2) [.string ByteArray.empty,.bool false,.slice none 0 0,.string ByteArray.empty] 36:=by rw[←hW];exact(by repeat(first|(refine Box.at ?_;(simp;done))|apply Box.drew|apply Box.alloc|assumption))
 clear hW;have x5:=bx.cell 5 rfl;have xl:=bx.lt;have t0:=bt.cell 0 rfl;have tl:=bt.lt;refine(xb AH cH cs x.cls _ (by omega) (hs.mono hb1)).mono ?_;rintro e w1 ⟨rfl,hb2⟩;have hbw:=za hb1 hb2;have bt2:=bt.mono hb2;have bx2:=bx.mono hb2;have bs2:=bs.mono hb2;clear x5 xl t0 tl bt bx bs hb2 hb1
 by_cases hneg:fnd cs x.cls<0
 ·have HB:Hid (o=none):=by show o=none;rw[HO.out];unfold qv;rw[if_pos hneg]
  have c0:=bs2.cell 0 rfl;have c1:=bs2.cell 1 rfl;have c2:=bs2.cell 2 rfl;have c3:=bs2.cell 3 rfl;have f0:=bs2.free 0;have f1:=bs2.free 1;have f2:=bs2.free 2;have f3:=bs2.free 3;have hz3:=bs2.lt
  go_wp2_with fail
  obtain⟨hbz,hgz⟩:=bs2.store4 (.string { data:=#[]}) (.bool false) (.slice none 0 0) (.string { data:=#[]});have hbw9:=hbw.grown hgz hbw.size (fun k hk=>by injection hk with hk;omega);clear c0 c1 c2 c3 f0 f1 f2 f3 hz3;generalize World.setCell _ _ _=wz at *
  have q0:=hbz.cell 0 rfl;have q1:=hbz.cell 1 rfl;have q2:=hbz.cell 2 rfl;have q3:=hbz.cell 3 rfl;refine bodyPost_ret (v:= .tuple #[.agg #[.string { data:=#[]},.bool false,.slice none 0 0,.string { data:=#[]}],.bool false]) (by simp[results,Tryz.results236,go_sem,q0,q1,q2,q3]) rfl ⟨⟨fun _=>rfl,fun g hg=>?_⟩,hbw9⟩;rw[HB.out] at hg
  cases hg
 obtain⟨j,hj⟩:∃j:Nat,fnd cs x.cls=j:=⟨(fnd cs x.cls).toNat,by omega⟩
 have hjl:j<cs.length:=by omega
 have HO2:Hid (o=if idxI (isSg x.name) cs[j].methods<0 then none else match cs[j].methods[(idxI (isSg x.name) cs[j].methods).toNat]? with
  |some m=>if m.static then some m else none
  |none=>none):=by show o=_;rw[HO.out];exact ahi hj hjl
 have hib:=aaz (isSg x.name) cs[j].methods;have hml:=(hlk.out _ (List.getElem_mem hjl)).2.1;obtain⟨b0,o0,A2,cc2,A3,cc3,rfl,hb,d0,d1,d2,d3,hc2,hs2,hc3,hs3⟩:=hs.cls_at hjl;rw[hj];clear hj hneg hfb HO;have d3':=keptC d3 hb hbw;have hb':=Nat.lt_of_lt_of_le hb hbw.size;clear d0 d1 d2 d3;have t0:=bt2.cell 0 rfl;have tl:=bt2.lt;have xl:=bx2.lt;have hj0:¬(j:Int)<0:=by omega
 go_wp2_with fail
 refine(aex A3 cc3 _ cs[j].methods x.name _ (by omega) (hs3.mono hbw) xl (bx2.cell 6 rfl)).mono ?_;rintro e w2 ⟨rfl,hb3⟩;have hbw3:=za hbw hb3;have bs3:=bs2.mono hb3;clear t0 tl xl bt2 bx2 bs2 d3' hb' hj0 hbw hb3
 by_cases hni:idxI (isSg x.name) cs[j].methods<0
 ·have HB:Hid (o=none):=by show o=none;rw[HO2.out,if_pos hni]
  have c0:=bs3.cell 0 rfl;have c1:=bs3.cell 1 rfl;have c2:=bs3.cell 2 rfl;have c3:=bs3.cell 3 rfl;have f0:=bs3.free 0;have f1:=bs3.free 1;have f2:=bs3.free 2;have f3:=bs3.free 3;have hz3:=bs3.lt
  go_wp2_with fail
  obtain⟨hbz,hgz⟩:=bs3.store4 (.string { data:=#[]}) (.bool false) (.slice none 0 0) (.string { data:=#[]});have hbw9:=hbw3.grown hgz hbw3.size (fun k hk=>by injection hk with hk;omega);clear c0 c1 c2 c3 f0 f1 f2 f3 hz3;generalize World.setCell _ _ _=wz at *
  have q0:=hbz.cell 0 rfl;have q1:=hbz.cell 1 rfl;have q2:=hbz.cell 2 rfl;have q3:=hbz.cell 3 rfl;refine bodyPost_ret (v:= .tuple #[.agg #[.string { data:=#[]},.bool false,.slice none 0 0,.string { data:=#[]}],.bool false]) (by simp[results,Tryz.results236,go_sem,q0,q1,q2,q3]) rfl ⟨⟨fun _=>rfl,fun g hg=>?_⟩,hbw9⟩;rw[HB.out] at hg
  cases hg
 obtain⟨k,hk⟩:∃k:Nat,idxI (isSg x.name) cs[j].methods=k:=⟨(idxI (isSg x.name) cs[j].methods).toNat,by omega⟩
 have hkl:k<cs[j].methods.length:=by omega
 have HO3:Hid (o=if cs[j].methods[k].static then some cs[j].methods[k] else none):=by
  show o=_;rw[HO2.out,if_neg hni,hk,Int.toNat_natCast,List.getElem?_eq_getElem hkl]
 rw[hk];clear hk hni hib HO2;obtain⟨bM,oM,A4,cc4,rfl,hbM,m0,m1,m2,m3,hc4,hs4⟩:=hs3.sg_at hkl;generalize hm:cs[j].methods[k]=m at *
 have hk0:¬(k:Int)<0:=by omega
 have m1':=keptC m1 hbM hbw3;have hbM':=Nat.lt_of_lt_of_le hbM hbw3.size
 cases hst:m.static with
 |false=>
  rw[hst] at m1';have HB:Hid (o=none):=by show o=none;rw[HO3.out,hst];rfl
  have c0:=bs3.cell 0 rfl;have c1:=bs3.cell 1 rfl;have c2:=bs3.cell 2 rfl;have c3:=bs3.cell 3 rfl;have f0:=bs3.free 0;have f1:=bs3.free 1;have f2:=bs3.free 2;have f3:=bs3.free 3;have hz3:=bs3.lt
  go_wp2_with fail
  obtain⟨hbz,hgz⟩:=bs3.store4 (.string { data:=#[]}) (.bool false) (.slice none 0 0) (.string { data:=#[]});have hbw9:=hbw3.grown hgz hbw3.size (fun k hk=>by injection hk with hk;omega);clear c0 c1 c2 c3 f0 f1 f2 f3 hz3;generalize World.setCell _ _ _=wz at *
  have q0:=hbz.cell 0 rfl;have q1:=hbz.cell 1 rfl;have q2:=hbz.cell 2 rfl;have q3:=hbz.cell 3 rfl;refine bodyPost_ret (v:= .tuple #[.agg #[.string { data:=#[]},.bool false,.slice none 0 0,.string { data:=#[]}],.bool false]) (by simp[results,Tryz.results236,go_sem,q0,q1,q2,q3]) rfl ⟨⟨fun _=>rfl,fun g hg=>?_⟩,hbw9⟩;rw[HB.out] at hg
  cases hg
 |true=>
  rw[hst] at m1';have HB:Hid (o=some m):=by show o=_;rw[HO3.out,hst];rfl
  have m0':=keptC m0 hbM hbw3;have m2':=keptC m2 hbM hbw3;have m3':=keptC m3 hbM hbw3;clear m0 m1 m2 m3;have c0:=bs3.cell 0 rfl;have c1:=bs3.cell 1 rfl;have c2:=bs3.cell 2 rfl;have c3:=bs3.cell 3 rfl;have f0:=bs3.free 0;have f1:=bs3.free 1;have f2:=bs3.free 2;have f3:=bs3.free 3;have hz3:=bs3.lt
  go_wp2_with fail
  obtain⟨hbz,hgz⟩:=bs3.store4 (.string m.name) (.bool true) (.slice A4 m.params.length cc4) (.string m.result);have hbw9:=hbw3.grown hgz hbw3.size (fun k hk=>by injection hk with hk;omega);clear c0 c1 c2 c3 f0 f1 f2 f3 hz3;generalize World.setCell _ _ _=wz at *
  have q0:=hbz.cell 0 rfl;have q1:=hbz.cell 1 rfl;have q2:=hbz.cell 2 rfl;have q3:=hbz.cell 3 rfl;refine bodyPost_ret (v:= .tuple #[.agg #[.string m.name,.bool true,.slice A4 m.params.length cc4,.string m.result],.bool true]) (by simp[results,Tryz.results236,go_sem,q0,q1,q2,q3]) rfl ⟨⟨fun h=>?_,fun g hg=>?_⟩,hbw9⟩
  ·rw[HB.out] at h;cases h
  ·rw[HB.out] at hg
   injection hg with hg
   subst hg;exact⟨A4,cc4,by rw[hst],hs4.mono hbw9,hc4,hst⟩
end Go.Proofs.YtmhdambkchlilaaGreatDoor
