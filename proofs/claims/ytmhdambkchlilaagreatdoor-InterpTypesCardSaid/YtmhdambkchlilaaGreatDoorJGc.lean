/- Chapter 10: the error of a hierarchy and its index, as a plain function. Chapter 10: isType, slices.Equal, overrides, the check of a field: what they return. Chapter 10: plain laws for the answer's check of a hierarchy. -/
import Derived.Test.YtmhdambkchlilaaGreatDoorJGh
import Derived.Test.YtmhdambkchlilaaGreatDoorJLexB
namespace Go.Proofs.YtmhdambkchlilaaGreatDoor
open Go.RowKit
set_option linter.unusedVariables false
set_option maxRecDepth 100000
set_option maxHeartbeats 2000000
def frst(f:Nat→Int):Nat→Int
 | 0=>0
 |k+1=>if frst f k≠0 then frst f k else f k
theorem yz{f:Nat→Int}{k:Nat}(h:frst f k=0)(hk:f k=0):frst f (k+1)=0:=by
 rw[frst,if_neg (by simpa using h),hk]
theorem jk{f:Nat→Int}{k n:Nat}(h:frst f k=0)(hk:f k≠0)(hn:k<n):frst f n=f k:=by
 induction n with
 |zero=>omega
 |succ n ih=>
  by_cases e:k=n
  ·subst e;rw[frst,if_neg (by simpa using h)]
  ·have:=ih (by omega)
   rw[frst,if_pos (by rw[this];exact hk),this]
theorem kU{f:Nat→Int}{k:Nat}(h:frst f k=0):∀j,j<k→f j=0:=by
 induction k with
 |zero=>intro j hj;omega
 |succ k ih=>
  rw[frst] at h
  split at h
  ·rename_i hn;exact absurd h hn
  ·rename_i hn
   have h0:frst f k=0:=by simpa using hn
   intro j hj
   by_cases e:j=k
   ·subst e;exact h
   ·exact ih h0 j (by omega)
def jB(f:Nat→Int)(n:Nat):Option Nat:=(List.range n).find? (fun k=>decide (f k≠0))
theorem aak{f:Nat→Int}{k n:Nat}(h:frst f k=0)(hk:f k≠0)(hn:k<n):jB f n=some k:=by
 unfold jB;rw[List.find?_range_eq_some];exact⟨by simpa using hk,by simpa using hn,fun j hj=>by simpa using kU h j hj⟩
theorem xG{f:Nat→Int}{n:Nat}(h:frst f n=0):jB f n=none:=by
 unfold jB;rw[List.find?_range_eq_none];exact fun j hj=>by simpa using kU h j hj
def isTy(cs:List Cls)(s:ByteArray):Bool:=s.toList==[105,110,116]||decide (0≤fnd cs s)
def yB(m o:Sg):Bool:= !m.static && !o.static&&decide (m.result=o.result)&&decide (m.params=o.params)
def mths(cs:List Cls)(j:Int):List Sg:=match cs[j.toNat]? with
 |some x=>x.methods
 |none=>[]
theorem jI{cs:List Cls}{j:Nat}(hj:j<cs.length):mths cs j=cs[j].methods:=by unfold mths;rw[Int.toNat_natCast,List.getElem?_eq_getElem hj]
theorem jJ{s:ByteArray}(h:zG s):s.size≤9223372036854775807:=h
def yQ(cs:List Cls):Prop:=∀x∈cs,(zG x.name∧zG x.super)∧(∀f∈x.fields,zG f.name∧zG f.typ)∧∀m∈x.methods,zG m.name∧zG m.result∧∀p∈m.params,zG p
theorem yQ.names{cs:List Cls}(h:yQ cs):Hid (qq cs):=fun x hx=>(h x hx).1
def fldE(cs:List Cls)(fs:List Fld)(T:List Int)(k:Nat)(f:Fld):Int:=
 if !zC f.name then 5 else if !isTy cs f.typ then 8 else if idxI (ye f.name) fs<k then 7 else if T.any (fun j=>decide (0≤fIdx cs f.name j)) then 7 else 0
def yq(cs:List Cls)(T:List Int)(m:Sg):Bool:=T.any fun j=>(mths cs j).any fun o=>o.name.toList==m.name.toList && !yB m o
def mthE(cs:List Cls)(ms:List Sg)(T:List Int)(k:Nat)(m:Sg):Int:=
 if !zC m.name then 5 else if idxI (isSg m.name) ms<k then 7 else if 6<m.params.length then 3 else if !m.params.all (isTy cs) then 8 else if !(m.result.toList.isEmpty||isTy cs m.result) then 8 else if yq cs T m then 11 else 0
def fldF(cs:List Cls)(c:Cls)(T:List Int)(k:Nat):Int:=match c.fields[k]? with
 |some f=>fldE cs c.fields T k f
 |none=>0
theorem qZ{cs:List Cls}{c:Cls}{T:List Int}{k:Nat}(h:k<c.fields.length):fldF cs c T k=fldE cs c.fields T k c.fields[k]:=by unfold fldF;rw[List.getElem?_eq_getElem h]
def mthF(cs:List Cls)(c:Cls)(T:List Int)(k:Nat):Int:=match c.methods[k]? with
 |some m=>mthE cs c.methods T k m
 |none=>0
theorem jM{cs:List Cls}{c:Cls}{T:List Int}{k:Nat}(h:k<c.methods.length):mthF cs c T k=mthE cs c.methods T k c.methods[k]:=by unfold mthF;rw[List.getElem?_eq_getElem h]
def clsE(cs:List Cls)(i:Nat)(c:Cls):Int:=
 if !zC c.name then 5 else if fnd cs c.name≠i then 7 else if c.super.toList.isEmpty=false∧fnd cs c.super<0 then 6 else if(chR cs i).2 then 10 else if 16<c.fields.length∨16<c.methods.length then 3
 else if frst (fldF cs c (chR cs i).1.tail) c.fields.length≠0 then frst (fldF cs c (chR cs i).1.tail) c.fields.length else frst (mthF cs c (chR cs i).1.tail) c.methods.length
def clsF(cs:List Cls)(i:Nat):Int:=match cs[i]? with
 |some c=>clsE cs i c
 |none=>0
theorem xt{cs:List Cls}{i:Nat}(h:i<cs.length):clsF cs i=clsE cs i cs[i]:=by unfold clsF;rw[List.getElem?_eq_getElem h]
def yn(cs:List Cls):Int×Int:=if 64<cs.length then(-1,3) else match jB (clsF cs) cs.length with
 |some k=>((k:Int),clsF cs k)
 |none=>(0,0)
theorem acv{cs:List Cls}(hl:¬64<cs.length){k:Nat}(h:frst (clsF cs) k=0)(hk:clsF cs k≠0)(hn:k<cs.length):yn cs=((k:Int),clsF cs k):=by
 unfold yn;rw[if_neg hl,aak h hk hn]
theorem adz{cs:List Cls}(hl:¬64<cs.length)(h:frst (clsF cs) cs.length=0):yn cs=(0,0):=by
 unfold yn;rw[if_neg hl,xG h]
theorem aa7{nx:Nat→Int}:∀(f:Nat) (i:Int) (l:List Int),∃T,(chGo nx f i l).1=l++T
 | 0,i,l=>⟨[],by simp[chGo]⟩
 |f+1,i,l=>by
  by_cases h:0≤i∧i∉l
  ·rw[qe h]
   obtain⟨T,hT⟩:=aa7 (nx:=nx) f (nx i.toNat) (l++[i]);exact⟨i::T,by rw[hT];simp⟩
  ·rw[yF h];exact⟨[],by simp⟩
theorem ahd{cs:List Cls}{i:Nat}(hi:i<cs.length):∃T,(chR cs i).1=(i:Int)::T:=by
 unfold chR;obtain⟨n,hn⟩:∃n,cs.length=n+1:=⟨cs.length-1,by omega⟩
 rw[hn,qe ⟨by omega,by simp⟩];obtain⟨T,hT⟩:=aa7 (nx:=supI cs) n (supI cs (i:Int).toNat) ([]++[(i:Int)]);exact⟨T,by rw[hT];rfl⟩
theorem xH(A:Option Addr)(c b:Nat)(cs:List Cls)(s:ByteArray)(w:World)(hT:TabV w A c b cs)(hs:zG s) :
  Calls Tryz.prog 323 #[.agg #[.slice A cs.length c,.map (some b)],.string s] w fun e w'=>e = .returned (.bool (isTy cs s))∧Below w.heap.size w w':=by
 have hb0:Below w.heap.size w (w.alloc (.cells #[.slice A cs.length c,.map (some b)] 155)):=(by repeat(first|assumption|exact v9r|apply zc|apply zd|apply zg|apply ze|apply zi))
 cases hq:(s.toList==[105,110,116]) with
 |true=>
  have HB:Hid (isTy cs s=true):=by show _=_;unfold isTy;rw[hq];rfl
  go_enter Tryz.func323,Tryz.ntmps323
  go_wp2_with fail
  go_ret
  exact⟨by rw[HB.out];rfl,hb0⟩
 |false=>
  have HB:Hid (isTy cs s=decide (0≤fnd cs s)):=by show _=_;unfold isTy;rw[hq];rfl
  go_enter Tryz.func323,Tryz.ntmps323
  go_wp2_with fail
  refine(jK A c b cs s _ (hT.mono hb0) hs).mono ?_;rintro e w1 ⟨rfl,hb1⟩
  go_wp2_with fail
  go_ret
  exact⟨by rw[HB.out];rfl,za hb0 hb1⟩
theorem ac3(A B:Option Addr)(cA cB:Nat)(l m:List ByteArray)(w:World)(hl:l.length≤8796093022208)(hm:m.length≤8796093022208)(hs:Sl Lay.str w A l)(ht:Sl Lay.str w B m) :
  Calls Tryz.prog 344 #[.slice A l.length cA,.slice B m.length cB] w fun e w'=>e = .returned (.bool (decide (l=m)))∧Below w.heap.size w w':=by
 obtain⟨r,HR⟩:∃r,Hid (r=decide (l=m)):=⟨_,v9h rfl⟩
 rw[←HR.out]
 by_cases hlen:l.length=m.length
 ·have HL:=v9h hlen
  have h0:((l.length:Int) != (m.length:Int))=false:=by simp[hlen]
  have hle:l.length≤m.length:=by omega
  have hge:m.length≤l.length:=by omega
  clear hlen
  go_enter Tryz.func344,Tryz.ntmps344
  go_wp2_with fail
  go_loopw [13] (fun i wr=>∃k:Nat,k≤l.length∧i = .int .i64 k∧(∀i (hi:i<k) (h1:i<l.length) (h2:i<m.length),l[i]=m[i])∧Below w.heap.size w wr) (fun i _=>l.length-(intOf i).toNat)
  case atStart=>exact⟨0,Nat.zero_le _,rfl,fun i hi=>by omega,v9r⟩
  case round=>
   obtain⟨k,hk,rfl,HE0,hbw⟩:=hrel;have HE:=v9h HE0;clear HE0
   by_cases hlt:k<l.length
   ·have hlt2:k<m.length:=by omega
    obtain⟨b,o,rfl,hb,d0⟩:=(hs.mono hbw).str_at hlt;obtain⟨b2,o2,rfl,hb2,d2⟩:=(ht.mono hbw).str_at hlt2
    cases hq:(l[k].toList==m[k].toList) with
    |false=>
     have HB:Hid (r=false):=by
      show r=false;rw[HR.out,decide_eq_false_iff_not];intro h;subst h;rw[zO.2 rfl] at hq
      cases hq
     go_wp2_with fail
     refine yy 9 (by kernel_rfl) (by kernel_rfl) ?_;refine RW.chunk (f:=0) [0,1,2,3,4,5,6,7,8] (by kernel_rfl) ?_
     ((simp only[zo,List.filterMap,List.getElem?_toArray,List.getElem?_cons_zero,List.getElem?_cons_succ]);(repeat(go_big_quiet_step (fail)));refine wpQuiet_nil ?_)
     (refine RW.done (by kernel_rfl) (by kernel_rfl) ?_)
     go_wp2_with fail
     go_ret
     exact⟨by rw[HB.out];rfl,hbw.drew⟩
    |true=>
     have hek:l[k]=m[k]:=zO.1 hq
     have HE2:Hid (∀i (hi:i<k+1) (h1:i<l.length) (h2:i<m.length),l[i]=m[i]):=fun i hi h1 h2=>by
      by_cases e:i=k
      ·subst e;exact hek
      ·exact HE.out i (by omega) h1 h2
     clear hek
     go_wp2_with fail
     refine yy 9 (by kernel_rfl) (by kernel_rfl) ?_;refine RW.chunk (f:=0) [0,1,2,3,4,5,6,7,8] (by kernel_rfl) ?_
     ((simp only[zo,List.filterMap,List.getElem?_toArray,List.getElem?_cons_zero,List.getElem?_cons_succ]);(repeat(go_big_quiet_step (fail)));refine wpQuiet_nil ?_)
     (refine RW.done (by kernel_rfl) (by kernel_rfl) ?_)
     go_wp2_with fail
     go_roundw
     case rel=>exact⟨k+1,by omega,by go_num,HE2.out,hbw.drew⟩
     case measure=>simp[intOf];omega
   ·have HB:Hid (r=true):=by
     show r=true;rw[HR.out,decide_eq_true_iff];exact List.ext_getElem HL.out (fun i h1 h2=>HE.out i (by omega) h1 h2)
    go_wp2_with fail
    go_ret
    exact⟨by rw[HB.out];rfl,hbw⟩
 ·have HB:Hid (r=false):=by
   show r=false;rw[HR.out,decide_eq_false_iff_not];exact fun h=>hlen (by rw[h])
  have h0:((l.length:Int) != (m.length:Int))=true:=by simp;omega
  clear hlen
  go_enter Tryz.func344,Tryz.ntmps344
  go_wp2_with fail
  go_ret
  exact⟨by rw[HB.out];rfl,v9r⟩
theorem aae(m o:Sg)(A B:Option Addr)(cA cB:Nat)(w:World)(hl:m.params.length≤8796093022208)(hm:o.params.length≤8796093022208)(hs:Sl Lay.str w A m.params)(ht:Sl Lay.str w B o.params) :
  Calls Tryz.prog 324 #[.agg #[.string m.name,.bool m.static,.slice A m.params.length cA,.string m.result],.agg #[.string o.name,.bool o.static,.slice B o.params.length cB,.string o.result]] w fun e w'=>e = .returned (.bool (yB m o))∧Below w.heap.size w w':=by
 obtain⟨r,HR⟩:∃r,Hid (r=yB m o):=⟨_,v9h rfl⟩
 rw[←HR.out]
 cases h1:m.static with
 |true=>
  have HB:Hid (r=false):=by show r=false;rw[HR.out];unfold yB;rw[h1];rfl
  go_enter Tryz.func324,Tryz.ntmps324
  go_wp2_with fail
  go_ret
  exact⟨by rw[HB.out];rfl,(by repeat(first|assumption|exact v9r|apply zc|apply zd|apply zg|apply ze|apply zi))⟩
 |false=>
  cases h2:o.static with
  |true=>
   have HB:Hid (r=false):=by show r=false;rw[HR.out];unfold yB;rw[h1,h2];rfl
   go_enter Tryz.func324,Tryz.ntmps324
   go_wp2_with fail
   go_ret
   exact⟨by rw[HB.out];rfl,(by repeat(first|assumption|exact v9r|apply zc|apply zd|apply zg|apply ze|apply zi))⟩
  |false=>
   cases h3:(m.result.toList==o.result.toList) with
   |false=>
    have HB:Hid (r=false):=by
     have hn:¬m.result=o.result:=fun h=>by rw[zO.2 h] at h3;cases h3
     show r=false;rw[HR.out];unfold yB;rw[h1,h2,decide_eq_false hn];rfl
    go_enter Tryz.func324,Tryz.ntmps324
    go_wp2_with fail
    go_ret
    exact⟨by rw[HB.out];rfl,(by repeat(first|assumption|exact v9r|apply zc|apply zd|apply zg|apply ze|apply zi))⟩
   |true=>
    have HB:Hid (r=decide (m.params=o.params)):=by
     show r=_;rw[HR.out];unfold yB;rw[h1,h2,decide_eq_true (zO.1 h3)];rfl
    go_enter Tryz.func324,Tryz.ntmps324
    go_wp2_with fail
    have hb0:Below w.heap.size w ((w.alloc (.cells #[.string m.name,.bool false,.slice A m.params.length cA,.string m.result] 36)).alloc (.cells #[.string o.name,.bool false,.slice B o.params.length cB,.string o.result] 36)):=(by repeat(first|assumption|exact v9r|apply zc|apply zd|apply zg|apply ze|apply zi))
    refine(ac3 A B cA cB m.params o.params _ hl hm (hs.mono hb0) (ht.mono hb0)).mono ?_;rintro e w1 ⟨rfl,hb1⟩
    go_wp2_with fail
    go_ret
    exact⟨by rw[HB.out];rfl,za hb0 hb1⟩
theorem afs{w:World}{b o:Nat}{x:Int}{T:List Int}(h:Sl Lay.int w (some ⟨b,o,none⟩) (x::T)){k:Nat}(hk:k<T.length):b<w.heap.size∧w.cell? ⟨b,o+1+k,none⟩=some (.int .i64 T[k]):=by
 obtain⟨b',o',e,hb,h1⟩:=h.int_at (i:=k+1) (by simp;omega);simp only[Option.some.injEq,Addr.mk.injEq] at e;obtain⟨rfl,rfl,_⟩:=e;refine⟨hb,?_⟩;rw[show o+1+k=o+(k+1) by omega,h1]
 rfl
theorem abr(A:Option Addr)(c b bL oL cL:Nat)(cs:List Cls)(i k:Nat)(T:List Int)(w:World)(hl:cs.length≤1000)(hi:i<cs.length)(hk:k<cs[i].fields.length)(hcL:T.length+1≤cL)(hTl:T.length≤1000)
  (hTb:Hid (∀x∈T,0≤x∧x<(cs.length:Int))) (hsL:Sl Lay.int w (some ⟨bL,oL,none⟩) ((i:Int)::T)) (hT:TabV w A c b cs) (hok:Hid (yQ cs)) (hlk:Hid (yp cs)) (hkw:KwX w) :
  Calls Tryz.prog 282 #[.agg #[.slice A cs.length c,.map (some b)],.slice (some ⟨bL,oL,none⟩) (T.length+1) cL,.int .i64 k] w fun e w'=>e = .returned (.int .i64 (fldE cs cs[i].fields T k cs[i].fields[k]))∧Below w.heap.size w w':=by
 obtain⟨r,HR⟩:∃r,Hid (r=fldE cs cs[i].fields T k cs[i].fields[k]):=⟨_,v9h rfl⟩
 rw[←HR.out];have hfl:=(hlk.out _ (List.getElem_mem hi)).1;obtain⟨b0,o0,A2,c2,A3,c3,rfl,hb0,d0,d1,d2,d3,hc2,hs2,hc3,hs3⟩:=hT.sl.cls_at hi;obtain⟨b2,o2,rfl,hb2,f0,f1⟩:=hs2.fld_at hk;obtain⟨bx,ox,ex,hbx0,dL0⟩:=hsL.int_at (i:=0) (by simp);simp only[Option.some.injEq,Addr.mk.injEq] at ex;obtain⟨rfl,rfl,_⟩:=ex;have dL0':w.cell? ⟨bL,oL,none⟩=some (.int .i64 i):=dL0;clear dL0;have ho:=(hok.out _ (List.getElem_mem hi)).2.1 _ (List.getElem_mem hk)
 go_enter Tryz.func282,Tryz.ntmps282
 go_wp2_with fail
 have hbt:=Box.new w [.slice (some ⟨b0,o0,none⟩) cs.length c,.map (some b)] 155;refine yy 8 (by kernel_rfl) (by kernel_rfl) ?_;refine RW.chunk (f:=1) [0,1,2,3,4,5,6] (by kernel_rfl) ?_
 ((simp only[zo,List.filterMap,List.getElem?_toArray,List.getElem?_cons_zero,List.getElem?_cons_succ]);(repeat(go_big_quiet_step (fail)));refine wpQuiet_nil ?_)
 refine RW.single 7 rfl (by kernel_rfl) (by omega) ?_;intro K hK
 go_wp2_with fail
 refine hK _ _ (zc (v9r)) ?_;clear hK
 (refine RW.tail (by kernel_rfl) ?_;(simp only[List.drop_succ_cons,List.drop_zero]))
 go_wp2_with fail
 generalize hW:World.drew _=W1;have hb1:Below w.heap.size w W1:=by rw[←hW];exact(by repeat(first|assumption|exact v9r|apply zc|apply zd|apply zg|apply ze|apply zi))
 have bt:Box W1 w.heap.size [.slice (some ⟨b0,o0,none⟩) cs.length c,.map (some b)] 155:=by rw[←hW];exact(by repeat(first|(refine Box.at ?_;(simp;done))|apply Box.drew|apply Box.alloc|assumption))
 have bc:Box W1 (w.heap.size+1) [.string cs[i].name,.string cs[i].super,.slice (some ⟨b2,o2,none⟩) cs[i].fields.length c2,.slice A3 cs[i].methods.length c3] 94:=by rw[←hW];exact(by repeat(first|(refine Box.at ?_;(simp;done))|apply Box.drew|apply Box.alloc|assumption))
 have bf:Box W1 (w.heap.size+1+1) [.string cs[i].fields[k].name,.string cs[i].fields[k].typ] 61:=by rw[←hW];exact(by repeat(first|(refine Box.at ?_;(simp;done))|apply Box.drew|apply Box.alloc|assumption))
 clear hW hbt d0 d1 d2 d3 f0 f1 dL0' hbx0;refine(ku cs[i].fields[k].name _ (jJ ho.1) (hkw.mono hb1)).mono ?_;rintro e w1 ⟨rfl,rfl⟩
 cases hI:zC cs[i].fields[k].name with
 |false=>
  have HB:Hid (r=5):=by show r=5;rw[HR.out];unfold fldE;rw[hI];rfl
  go_wp2_with fail
  go_ret
  exact⟨by rw[HB.out];rfl,hb1⟩
 |true=>
 have t0:=bt.cell 0 rfl;have t1:=bt.cell 1 rfl;have tl:=bt.lt;have g1:=bf.cell 1 rfl;have gl:=bf.lt
 go_wp2_with fail
 refine(xH _ c b cs cs[i].fields[k].typ _ (hT.mono hb1) ho.2).mono ?_;rintro e w2 ⟨rfl,hb2'⟩;have hbw2:=za hb1 hb2';have bt2:=bt.mono hb2';have bc2:=bc.mono hb2';have bf2:=bf.mono hb2';clear t0 t1 tl g1 gl bt bc bf hb2' hb1
 cases hY:isTy cs cs[i].fields[k].typ with
 |false=>
  have HB:Hid (r=8):=by show r=8;rw[HR.out];unfold fldE;rw[hI,hY];rfl
  go_wp2_with fail
  go_ret
  exact⟨by rw[HB.out];rfl,hbw2⟩
 |true=>
 have p0:=bc2.cell 0 rfl;have p1:=bc2.cell 1 rfl;have p2:=bc2.cell 2 rfl;have p3:=bc2.cell 3 rfl;have pl:=bc2.lt;have g0:=bf2.cell 0 rfl;have gl:=bf2.lt
 go_wp2_with fail
 refine(xh cs[i] _ A3 c2 c3 cs[i].fields[k].name _ (by omega) (hs2.mono hbw2)).mono ?_;rintro e w3 ⟨rfl,hb3⟩;have hbw3:=za hbw2 hb3;have bt3:=bt2.mono hb3;have bf3:=bf2.mono hb3;clear p0 p1 p2 p3 pl g0 gl bt2 bc2 bf2 hb3 hbw2
 by_cases hlt:idxI (ye cs[i].fields[k].name) cs[i].fields<k
 ·have HB:Hid (r=7):=by show r=7;rw[HR.out];unfold fldE;rw[hI,hY,if_neg (by simp),if_neg (by simp),if_pos hlt]
  go_wp2_with fail
  go_ret
  exact⟨by rw[HB.out];rfl,hbw3⟩
 have HRT:Hid (r=if T.any (fun j=>decide (0≤fIdx cs cs[i].fields[k].name j)) then 7 else 0):=by
  show r=_;rw[HR.out];unfold fldE;rw[hI,hY,if_neg (by simp),if_neg (by simp),if_neg hlt]
 rcases Classical.em (cL=1) with hc1|hc1
 all_goals
  go_wp2_with fail
  go_loopw [41] (fun v wr=>∃q:Nat,q≤T.length∧v = .int .i64 q∧(∀z (hz:z<q) (hz2:z<T.length),fIdx cs cs[i].fields[k].name T[z]<0)∧Below w3.heap.size w3 wr) (fun v _=>T.length-(intOf v).toNat)
  case atStart=>exact⟨0,Nat.zero_le _,rfl,fun z hz=>by omega,v9r⟩
  case round=>
   obtain⟨q,hq,rfl,HN0,hbw⟩:=hrel;have HN:=v9h HN0;clear HN0;have bt4:=bt3.mono hbw;have bf4:=bf3.mono hbw;have hbw4:=za hbw3 hbw;have t0:=bt4.cell 0 rfl;have tl:=bt4.lt;have g0:=bf4.cell 0 rfl;have gl:=bf4.lt
   by_cases hqt:q<T.length
   ·first
    |(exfalso;omega)
    |(
      obtain⟨hbq,dq⟩:=afs (hsL.mono hbw4) hqt;have hjb:=hTb.out T[q] (List.getElem_mem hqt);obtain⟨j,hjj⟩:∃j:Nat,T[q]=j:=⟨T[q].toNat,by omega⟩
      have HJ:=v9h hjj;rw[hjj] at dq hjb;clear hjj;have hjl:j<cs.length:=by omega
      have hml:=(hlk.out _ (List.getElem_mem hjl)).1;obtain⟨b5,o5,A5,c5,A6,c6,e5,hb5,k0,k1,k2,k3,hc5,hs5,hc6,hs6⟩:=(hT.sl.mono hbw4).cls_at hjl;simp only[Option.some.injEq,Addr.mk.injEq] at e5;obtain⟨rfl,rfl,_⟩:=e5
      go_wp2_with fail
      refine yy 9 (by kernel_rfl) (by kernel_rfl) ?_;refine RW.chunk (f:=2) [0,1,2,3,4,5,6] (by kernel_rfl) ?_
      ((simp only[zo,List.filterMap,List.getElem?_toArray,List.getElem?_cons_zero,List.getElem?_cons_succ]);(repeat(go_big_quiet_step (fail)));refine wpQuiet_nil ?_)
      refine RW.single 7 rfl (by kernel_rfl) (by omega) ?_;intro K hK
      go_wp2_with fail
      refine(xh cs[j] A5 A6 c5 c6 cs[i].fields[k].name _ (by omega) (hs5.mono (by repeat(first|assumption|exact v9r|apply zc|apply zd|apply zg|apply ze|apply zi)))).mono ?_;rintro e w6 ⟨rfl,hb6⟩
      go_wp2_with fail
      refine hK _ _ hb6 ?_;clear hK;refine RW.chunk (f:=0) [8] (by kernel_rfl) ?_
      ((simp only[zo,List.filterMap,List.getElem?_toArray,List.getElem?_cons_zero,List.getElem?_cons_succ]);(repeat(go_big_quiet_step (fail)));refine wpQuiet_nil ?_)
      (refine RW.done (by kernel_rfl) (by kernel_rfl) ?_)
      have hb46:Below wr.heap.size wr w6:=za (aaR (v9r) 1) hb6
      by_cases hge:0≤idxI (ye cs[i].fields[k].name) cs[j].fields
      ·have HB:Hid (r=7):=by
        show r=7;rw[HRT.out,if_pos];exact List.any_eq_true.2 ⟨T[q],List.getElem_mem hqt,by rw[HJ.out,jj hjl];simpa using hge⟩
       go_wp2_with fail
       go_ret
       exact⟨by rw[HB.out];rfl,za hbw4 hb46⟩
      ·have HN2:Hid (∀z (hz:z<q+1) (hz2:z<T.length),fIdx cs cs[i].fields[k].name T[z]<0):=fun z hz hz2=>by
        by_cases ez:z=q
        ·subst ez;rw[HJ.out,jj hjl];omega
        ·exact HN.out z (by omega) hz2
       go_wp2_with fail
       go_roundw
       case rel=>exact⟨q+1,by omega,by go_num,HN2.out,za hbw hb46⟩
       case measure=>simp[intOf];omega)
   ·have HB:Hid (r=0):=by
     show r=0;rw[HRT.out,if_neg];intro h;obtain⟨j,hj,hp⟩:=List.any_eq_true.1 h;obtain⟨z,hz,rfl⟩:=List.getElem_of_mem hj;have:=HN.out z (by omega) hz
     simp at hp
     omega
    go_wp2_with fail
    go_ret
    exact⟨by rw[HB.out];rfl,hbw4⟩
theorem abt{nx:Nat→Int}:∀(f g:Nat) (i x:Int) (l:List Int),f≤g→(chGo nx f i (x::l)).2=false→∃L,(chGo nx f i (x::l)).1=x::L∧chGo nx g i l=(L,false)
 | 0,g,i,x,l,_,h=>by
  unfold chGo at h;have h0:¬0≤i:=by simpa using h
  refine⟨l,rfl,?_⟩;rw[yF (fun hh=>h0 hh.1),decide_eq_false h0]
 |f+1,g,i,x,l,hg,h=>by
  by_cases hc:0≤i∧i∉x::l
  ·obtain⟨g',rfl⟩:∃g',g=g'+1:=⟨g-1,by omega⟩
   have hc2:0≤i∧i∉l:=⟨hc.1,fun hh=>hc.2 (by simp[hh])⟩
   rw[qe hc] at h ⊢;rw[qe hc2];exact abt f g' _ x (l++[i]) (by omega) h
  ·rw[yF hc] at h ⊢
   have h0:¬0≤i:=by simpa using h
   refine⟨l,rfl,?_⟩;rw[yF (fun hh=>h0 hh.1),decide_eq_false h0]
theorem ai6{cs:List Cls}{i:Nat}(hi:i<cs.length)(h:(chR cs i).2=false):(chR cs i).1.tail=(chR cs (supI cs i)).1:=by
 unfold chR at h ⊢;obtain⟨n,hn⟩:∃n,cs.length=n+1:=⟨cs.length-1,by omega⟩
 rw[hn] at h ⊢;have hc:0≤(i:Int)∧(i:Int)∉([]:List Int):=⟨by omega,by simp⟩
 rw[qe hc,Int.toNat_natCast,List.nil_append] at h ⊢;obtain⟨L,h1,h2⟩:=abt (nx:=supI cs) n (n+1) (supI cs i) i [] (by omega) h;rw[h1,h2]
 rfl
theorem aie(cs:List Cls):(chR cs (-1)).1=[]:=by
 unfold chR;rw[yF (by omega)]
theorem abu(cs:List Cls)(n:ByteArray):∀l,(ya cs n l).2.2=l.any fun j=>decide (0≤fIdx cs n j)
 |[]=>rfl
 |j::r=>by
  rw[ya,List.any_cons]
  by_cases h:0≤fIdx cs n j
  ·rw[if_pos h,decide_eq_true h];rfl
  ·rw[if_neg h,decide_eq_false h,Bool.false_or];exact abu cs n r
theorem ahe{cs:List Cls}{i:Nat}(hi:i<cs.length)(h:(chR cs i).2=false)(n:ByteArray):((chR cs i).1.tail.any fun j=>decide (0≤fIdx cs n j))=((zz cs cs[i].super n).2.2 && !cs[i].super.toList.isEmpty):=by
 rw[ai6 hi h,aaA hi]
 cases hq:cs[i].super.toList.isEmpty with
 |true=>rw[if_pos rfl,aie];simp
 |false=>rw[if_neg (by simp),←abu];simp[zz]
theorem kZ{α:Type}{p:α→Bool}{l:List α}{j k:Nat}(hj:j<l.length)(hk:k<j)(h:p (l[k]'(by omega))=true):idxI p l<j:=by
 unfold idxI
 cases hq:l.findIdx? p with
 |none=>show(-1:Int)<j;omega
 |some i=>
  have h1:=(List.findIdx?_eq_some_iff_getElem.1 hq).2.2;show(i:Int)<j
  by_cases hlt:i<j
  ·omega
  ·exact absurd h (by simpa using h1 k (by omega))
theorem acw{α:Type}{p:α→Bool}{l:List α}{j:Nat}(hj:j<l.length)(h:∀i (hi:i<j),p (l[i]'(by omega))=false)(hp:p l[j]=true):¬idxI p l<j:=by
 rw[qY hj (fun i hi=>h i hi) hp]
 omega
theorem agm{cs:List Cls}{T:List Int}{m:Sg}{i:Nat}(hi:i<T.length){j:Nat}(hj:T[i]=j)(hjl:j<cs.length){k:Nat}(hk:k<cs[j].methods.length)(h:(cs[j].methods[k].name.toList==m.name.toList && !yB m cs[j].methods[k])=true):yq cs T m=true:=by
 unfold yq;rw[List.any_eq_true];refine⟨T[i],List.getElem_mem hi,?_⟩;rw[hj,jI hjl,List.any_eq_true];exact⟨_,List.getElem_mem hk,h⟩
theorem aeu{cs:List Cls}{T:List Int}{m:Sg}(h:∀i (hi:i<T.length),((mths cs T[i]).any fun o=>o.name.toList==m.name.toList && !yB m o)=false):yq cs T m=false:=by
 unfold yq;rw[List.any_eq_false];intro j hj;obtain⟨i,hi,rfl⟩:=List.getElem_of_mem hj;rw[h i hi]
 simp
end Go.Proofs.YtmhdambkchlilaaGreatDoor
