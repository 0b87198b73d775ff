/- Chapter 10: the answer's look-up of a field in any hierarchy. Chapter 10: the answer's types: whether the types of a signature are types. Chapters 10, 12: equality as a Bool; the answer's SameInts and SameSig. (The lines of SmA, SmB, for seats without the reading of texts.) Chapter 10: the answer's overrides: whether a method contradicts one of the same name further up. Chapter 10: the answer's fields: the first error of the fields of a class. Chapter 10: the answer's methods: the first error of the methods of a class. Chapter 10: the answer's class and Check: the index and the error of a hierarchy. -/
import Derived.Test.YtmhdambkchlilaaGreatDoorJGk
import Derived.Test.YtmhdambkchlilaaGreatDoorJUa
import Derived.Test.YtmhdambkchlilaaGreatDoorJGa
namespace Go.Proofs.YtmhdambkchlilaaGreatDoor
open Go.RowKit
set_option linter.unusedVariables false
set_option maxRecDepth 100000
set_option maxHeartbeats 6000000
theorem afP(A:Option Addr)(c:Nat)(cs:List Cls)(s m:ByteArray)(w:World)(hl:cs.length≤8796093022208)(hsl:Sl Lay.cls w A cs)(hlk:Hid (yp cs)) :
  Calls Tryz.prog 328 #[.agg #[.slice A cs.length c],.string s,.string m] w fun e w'=>e = .returned (.tuple #[.string (zz cs s m).1,.string (zz cs s m).2.1,.bool (zz cs s m).2.2])∧Below w.heap.size w w':=by
 have HFIX:=v9h (ab5 cs s);have HBD:=v9h (qj (cs:=cs) (yb cs s).2).1;obtain⟨q,HQ⟩:∃q,Hid (q=zz cs s m):=⟨_,v9h rfl⟩
 rw[←HQ.out];have HQ0:Hid (q=ya cs m (chR cs (fnd cs s)).1):=HQ.out;have hlen:=kh (cs:=cs) (yb cs s).2;have HSU:Hid (zx cs s=(chR cs (fnd cs s)).1.map (nmAt cs)):=rfl;generalize(chR cs (fnd cs s)).1=I at *
 have hslen:(zx cs s).length=I.length:=by rw[HSU.out,List.length_map]
 have HNM:Hid (∀k (h:k<I.length) (h2:k<(zx cs s).length),(zx cs s)[k]=nmAt cs I[k]):=fun k h h2=>by simp[HSU.out]
 have bh0:=Box.new w [.slice A cs.length c] 29;have hb0:Below w.heap.size w (w.alloc (.cells #[.slice A cs.length c] 29)):=(by repeat(first|assumption|exact v9r|apply zc|apply zd|apply zg|apply ze|apply zi))
 go_enter Tryz.func328,Tryz.ntmps328
 go_wp2_with fail
 refine(xj A c cs s _ hl (hsl.mono hb0)).mono ?_;rintro e w1 ⟨⟨v1,rfl,ho1⟩,hb1⟩;have bh2:=bh0.mono hb1;have hbw1:=za hb0 hb1;obtain⟨A1,c1,rfl,hc1,hs1⟩:=qN.of_own ho1;generalize zx cs s=N at *
 clear hb0 hb1 bh0 ho1
 go_wp2_with fail
 go_loopw [10] (fun i wr=>∃k:Nat,k≤N.length∧i = .int .i64 k∧Hid (q=ya cs m (I.drop k))∧Below w1.heap.size w1 wr) (fun i _=>N.length-(intOf i).toNat)
 case atStart=>exact⟨0,Nat.zero_le _,rfl,by show _=_;rw[List.drop_zero];exact HQ0.out,v9r⟩
 case round=>
  obtain⟨k,hk,rfl,HK,hbr⟩:=hrel;have bh:=bh2.mono hbr;have hbw:=za hbw1 hbr;have hs1r:=hs1.mono hbr
  by_cases hlt:k<N.length
  ·have hki:k<I.length:=by omega
   have hIb:=HBD.out _ (List.getElem_mem hki);have hIf:=HFIX.out _ (List.getElem_mem hki);have hNk:=HNM.out k hki hlt;have HNO:=v9h (fun h=>acs (cs:=cs) (m:=m) hki h);have HYES:=v9h (fun h=>abm (cs:=cs) (m:=m) hki h);generalize I[k]=ik at *
   obtain⟨n,rfl⟩:∃n:Nat,ik=n:=⟨ik.toNat,by omega⟩
   have hn:n<cs.length:=by omega
   have HNMN:=v9h hNk;rw[qh hn] at hNk;have HX:Hid (fnd cs N[k]=n):=by show _=_;rw[hNk];rw[qh hn] at hIf;exact hIf
   clear hIf hNk hIb;have hml:=(hlk.out _ (List.getElem_mem hn)).1;obtain⟨bN,oN,rfl,hbN,n0⟩:=hs1r.str_at hlt;obtain⟨b0,o,A2,c2,A3,c3,rfl,hbo,d0,d1,d2,d3,hc2,hs2,hc3,hs3⟩:=hsl.cls_at hn;have hb:=Nat.lt_of_lt_of_le hbo hbw.size;replace d0:=keptC d0 hbo hbw;replace d1:=keptC d1 hbo hbw;replace d2:=keptC d2 hbo hbw;replace d3:=keptC d3 hbo hbw;have h0:=bh.cell 0 rfl;have hlh:=bh.lt
   have HFD:Hid (∀W,Below w.heap.size w W→Calls Tryz.prog 42 #[.agg #[.slice (some ⟨b0,o,none⟩) cs.length c],.string N[k]] W fun e w'=>e = .returned (.int .i64 (n:Int))∧Below W.heap.size W w'):=fun W hW=>by
    have:=qK (some ⟨b0,o,none⟩) c cs N[k] W hl (hsl.mono hW);rw[HX.out] at this;exact this
   go_upto_region 5 with fail
   go_cut [11] (fun s11 wx=>∃g,s11 = .pointer (some ⟨g,0,none⟩)∧Box wx g [.string cs[n].name,.string cs[n].super,.slice A2 cs[n].fields.length c2,.slice A3 cs[n].methods.length c3] 94∧Below wr.heap.size wr wx)
   case first=>
    refine zt 12 (by kernel_rfl) (by kernel_rfl) ?_;refine RZ.chunk (f:=5) [0,1,2,3,4,5,6] (by kernel_rfl) ?_
    ((simp only[zo,List.filterMap,List.getElem?_toArray,List.getElem?_cons_zero,List.getElem?_cons_succ]);(repeat(go_big_quiet_step (fail)));refine wpQuiet_nil ?_)
    refine RZ.both 7 10 rfl rfl (by kernel_rfl) (by omega) (by omega) ?_ ?_
    ·intro K hK
     go_wp2_with fail
     refine(HFD.out _ hbw.drew).mono ?_;rintro e w6 ⟨rfl,hb6⟩;have hb6':Below wr.heap.size wr w6:=za (v9r).drew hb6
     go_wp2_with fail
     refine hK _ _ hb6 ?_;clear hK;refine RZ.chunk (f:=2) [8,9] (by kernel_rfl) ?_
     ((simp only[zo,List.filterMap,List.getElem?_toArray,List.getElem?_cons_zero,List.getElem?_cons_succ]);(repeat(go_big_quiet_step (fail)));refine wpQuiet_nil ?_)
     refine RZ.single 10 rfl (by kernel_rfl) (by omega) ?_;intro K hK
     go_wp2_with fail
     refine hK _ _ (zc hb6) ?_;clear hK;refine RZ.single 11 rfl (by kernel_rfl) (by omega) ?_;intro K hK
     go_wp2_with fail
     refine hK _ _ (zc hb6) ?_;clear hK
     (refine RZ.done (by kernel_rfl) (by kernel_rfl) ?_)
     go_wp2_with fail
     go_meet
     exact⟨_,rfl,Box.new _ _ _,zc hb6'⟩
    ·intro K hK
     go_wp2_with fail
     refine hK _ _ (zc (v9r)) ?_;clear hK;generalize hW:World.drew (World.alloc _ _)=W2;have hbz:Below wr.drew.heap.size wr.drew W2:=by rw[←hW];exact zc (v9r)
     have hbz2:Below wr.heap.size wr W2:=za (v9r).drew hbz;have byz:Box W2 wr.heap.size [.string ByteArray.empty,.string ByteArray.empty,.slice none 0 0,.slice none 0 0] 94:=by rw[←hW];exact(Box.new _ _ _).drew
     clear hW;refine RZ.single 7 rfl (by kernel_rfl) (by omega) ?_;intro K hK
     go_wp2_with fail
     refine(HFD.out _ (za hbw hbz2)).mono ?_;rintro e w6 ⟨rfl,hb6⟩;have hb7:=za hbz hb6;have hb7':Below wr.heap.size wr w6:=za hbz2 hb6;have by6:=byz.mono hb6
     go_wp2_with fail
     refine hK _ _ hb7 ?_;clear hK;refine RZ.chunk (f:=1) [8,9] (by kernel_rfl) ?_
     ((simp only[zo,List.filterMap,List.getElem?_toArray,List.getElem?_cons_zero,List.getElem?_cons_succ]);(repeat(go_big_quiet_step (fail)));refine wpQuiet_nil ?_)
     have yl6:=by6.lt;have yf:=fun i=>by6.free i
     have y0:=by6.cell 0 rfl;have y1:=by6.cell 1 rfl;have y2:=by6.cell 2 rfl;have y3:=by6.cell 3 rfl;obtain⟨by9,hg9⟩:=by6.store4 (.string cs[n].name) (.string cs[n].super) (.slice A2 cs[n].fields.length c2) (.slice A3 cs[n].methods.length c3);have hb9:=hb7'.grown hg9 hb7'.size (fun k hk=>by injection hk with hk;omega);have hb9d:=hb7.grown hg9 hb7.size (fun k hk=>by injection hk with hk;have:wr.drew.heap.size=wr.heap.size:=rfl;omega);refine RZ.single 11 rfl (by kernel_rfl) (by omega) ?_;intro K hK
     go_wp2_with fail
     refine hK _ _ hb9d ?_;clear hK
     (refine RZ.done (by kernel_rfl) (by kernel_rfl) ?_)
     go_wp2_with fail
     go_meet
     exact⟨_,rfl,by9,hb9⟩
   case rest=>
    obtain⟨g,rfl,bc,hbx⟩:=hcut;clear h0 hlh d0 d1 d2 d3 n0 HFD;have hbrx:=za hbr hbx;have hbwx:=za hbw hbx;have hs1x:=hs1r.mono hbx;clear hs3 hbx hbr bh hbw hs1r
    go_wp2_with fail
    have bc2:=bc;have k2:=bc.cell 2 rfl;have kl:=bc.lt
    go_loop [12] (fun i=>∃j:Nat,j≤cs[n].fields.length∧i = .int .i64 j∧Hid (∀i (hi:i<j) (hi2:i<cs[n].fields.length),ye m cs[n].fields[i]=false)) (fun i=>cs[n].fields.length-(intOf i).toNat)
    case atStart=>exact⟨0,Nat.zero_le _,rfl,fun i hi=>by omega⟩
    case round=>
     obtain⟨j,hj,rfl,HJ⟩:=hrel
     by_cases hjl:j<cs[n].fields.length
     ·obtain⟨bM,oM,rfl,hbMo,m0,m1⟩:=hs2.fld_at hjl
      have hbM:=Nat.lt_of_lt_of_le hbMo hbwx.size;replace m0:=keptC m0 hbMo hbwx;replace m1:=keptC m1 hbMo hbwx
      cases hq:ye m cs[n].fields[j] with
      |false=>
       have HJ2:Hid (∀i (hi:i<j+1) (hi2:i<cs[n].fields.length),ye m cs[n].fields[i]=false):=fun i hi hi2=>by
        by_cases e:i=j
        ·subst e;exact hq
        ·exact HJ.out i (by omega) hi2
       unfold ye at hq
       go_wp2_with fail
       go_round
       case rel=>exact⟨j+1,by omega,by go_num,HJ2⟩
       case measure=>simp[intOf];omega
      |true=>
       have HI:Hid (fIdx cs m n=j):=by show _=_;rw[jj hn];exact qY hjl (fun i hi=>HJ.out i hi (by omega)) hq
       have HE:Hid (q=(N[k],cs[n].fields[j].typ,true)):=by
        show _=_;rw[HK.out,HYES.out (by rw[HI.out];omega),adx hn hjl (by rw[←jj hn];exact HI.out),HNMN.out]
       unfold ye at hq;obtain⟨bN',oN',eA,hbN',n0⟩:=hs1x.str_at hlt;injection eA with eA
       injection eA with z1 z2
       subst z1 z2
       go_wp2_with fail
       refine zm (by kernel_rfl) (by kernel_rfl) ?_
       repeat(go_big_quiet_step (fail))
       refine wpQuiet_nil ?_;rintro _ ⟨z,rfl⟩
       go_wp2_with fail
       go_ret3
       exact⟨by rw[HE.out];rfl,za hbwx z.h⟩
     ·have HI:Hid (fIdx cs m n = -1):=by show _=_;rw[jj hn];exact qC (fun i hi=>HJ.out i (by omega) hi)
      have HK2:Hid (q=ya cs m (I.drop (k+1))):=by show _=_;rw[HK.out,HNO.out (by rw[HI.out];omega)]
      go_wp2_with fail
      go_roundw
      case rel=>exact⟨k+1,by omega,by go_num,HK2,hbrx⟩
      case measure=>simp[intOf];omega
  ·have HE:Hid (q=(ByteArray.empty,ByteArray.empty,false)):=by show _=_;rw[HK.out,abn (by omega)]
   go_wp2_with fail
   go_ret3
   exact⟨by rw[HE.out];rfl,hbw⟩
def tysE(cs:List Cls)(m:Sg):Int:=if !m.params.all (isTy cs) then 8 else if !(m.result.toList.isEmpty||isTy cs m.result) then 8 else 0
theorem xm(s:ByteArray):(s.toList.isEmpty=true∧(s.toList==([]:List UInt8))=true∧(s.toList != ([]:List UInt8))=false)∨(s.toList.isEmpty=false∧(s.toList==([]:List UInt8))=false∧(s.toList != ([]:List UInt8))=true):=by cases s.toList<;>simp
theorem afQ(A:Option Addr)(c:Nat)(cs:List Cls)(m:Sg)(AP:Option Addr)(cP:Nat)(w:World)(hl:cs.length≤8796093022208)(hsl:Sl Lay.cls w A cs)(hpl:m.params.length≤8796093022208)(hp:Sl Lay.str w AP m.params) :
  Calls Tryz.prog 329 #[.agg #[.slice A cs.length c],.agg #[.string m.name,.bool m.static,.slice AP m.params.length cP,.string m.result]] w fun e w'=>e = .returned (.int .i64 (tysE cs m))∧Below w.heap.size w w':=by
 obtain⟨r,HR⟩:∃r,Hid (r=tysE cs m):=⟨_,v9h rfl⟩
 rw[←HR.out]
 go_enter Tryz.func329,Tryz.ntmps329
 go_upto_region 1 with fail
 generalize hW:World.alloc _ _=W1 at *
 have hb1:Below w.heap.size w W1:=by rw[←hW];exact(by repeat(first|assumption|exact v9r|apply zc|apply zd|apply zg|apply ze|apply zi))
 have bh:Box W1 w.heap.size [.slice A cs.length c] 29:=by rw[←hW];exact(by repeat(first|(refine Box.at ?_;(simp;done))|apply Box.drew|apply Box.alloc|assumption))
 have bm:Box W1 (w.heap.size+1) [.string m.name,.bool m.static,.slice AP m.params.length cP,.string m.result] 36:=by rw[←hW];exact(by repeat(first|(refine Box.at ?_;(simp;done))|apply Box.drew|apply Box.alloc|assumption))
 clear hW
 go_wp2_with fail
 go_loopw [5] (fun i wr=>∃k:Nat,k≤m.params.length∧i = .int .i64 k∧Hid (∀i (hi:i<k) (h2:i<m.params.length),isTy cs m.params[i]=true)∧Below W1.heap.size W1 wr) (fun i _=>m.params.length-(intOf i).toNat)
 case atStart=>exact⟨0,Nat.zero_le _,rfl,fun i hi=>by omega,v9r⟩
 case round=>
  obtain⟨k,hk,rfl,HN,hbr⟩:=hrel;have hbw:=za hb1 hbr;have bhr:=bh.mono hbr;have bmr:=bm.mono hbr;have h0:=bhr.cell 0 rfl;have hlt0:=bhr.lt;have m2:=bmr.cell 2 rfl;have ml:=bmr.lt
  by_cases hlt:k<m.params.length
  ·have HC1:Hid (∀y:zk wr,Calls Tryz.prog 267 #[.agg #[.slice A cs.length c],.string m.params[k]] y.W fun e w'=>e = .returned (.bool (isTy cs m.params[k]))∧Below y.W.heap.size y.W w'):=fun y=>xd A c cs _ y.W hl (hsl.mono (za hbw y.h))
   have HBAD:Hid (isTy cs m.params[k]=false→r=8):=fun h=>by
    rw[HR.out];unfold tysE;have:m.params.all (isTy cs)=false:=by rw[List.all_eq_false];exact⟨_,List.getElem_mem hlt,by rw[h];simp⟩
    rw[this];rfl
   have HN2:Hid (isTy cs m.params[k]=true→∀i (hi:i<k+1) (h2:i<m.params.length),isTy cs m.params[i]=true):=fun h i hi h2=>by
    by_cases e:i=k
    ·subst e;exact h
    ·exact HN.out i (by omega) h2
   obtain⟨bP,oP,rfl,hbP,p0⟩:=(hp.mono hbw).str_at hlt;generalize isTy cs m.params[k]=b at *
   go_upto_region 4 with fail
   refine zm (by kernel_rfl) (by kernel_rfl) ?_
   repeat(go_big_quiet_step ((go_at_call 267;with_reducible exact Calls.later (HC1.out _))))
   refine wpQuiet_nil ?_;rintro _ ⟨y,rfl⟩
   cases b with
   |false=>
    have HB:=v9h (HBAD.out rfl)
    go_wp2_with fail
    go_ret
    exact⟨by rw[HB.out];rfl,za hbw y.h⟩
   |true=>
    have HN3:=v9h (HN2.out rfl)
    go_wp2_with fail
    go_roundw
    case rel=>exact⟨k+1,by omega,by go_num,HN3,za hbr y.h⟩
    case measure=>simp[intOf];omega
  ·have HR2:Hid (r=if !(m.result.toList.isEmpty||isTy cs m.result) then 8 else 0):=by
    show r=_;rw[HR.out];unfold tysE
    have:m.params.all (isTy cs)=true:=by
     rw[List.all_eq_true];intro x hx;obtain⟨i,hi,rfl⟩:=List.getElem_of_mem hx;exact HN.out i (by omega) hi
    rw[this];rfl
   have m3:=bmr.cell 3 rfl
   rcases xm m.result with⟨e1,e2,e3⟩|⟨e1,e2,e3⟩
   ·have HB:Hid (r=0):=by show r=0;rw[HR2.out,e1];rfl
    go_wp2_with fail
    go_ret
    exact⟨by rw[HB.out];rfl,hbw⟩
   ·have HB:Hid (r=if !(isTy cs m.result) then 8 else 0):=by show r=_;rw[HR2.out,e1];rfl
    have HC:=v9h (fun W h=>xd A c cs m.result W hl (hsl.mono h));generalize isTy cs m.result=b at *
    go_wp2_with fail
    refine(HC.out _ hbw).mono ?_;rintro e w3 ⟨rfl,hb3⟩
    cases b with
    |false=>
     go_wp2_with fail
     go_ret
     exact⟨by rw[HB.out];rfl,za hbw hb3⟩
    |true=>
     go_wp2_with fail
     go_ret
     exact⟨by rw[HB.out];rfl,za hbw hb3⟩
noncomputable def eqv{α:Type} (a b:α):Bool:=@decide (a=b) (Classical.propDecidable _)
theorem ah1{α:Type}{a b:α}(h:a=b):eqv a b=true:=@decide_eq_true _ (Classical.propDecidable _) h
theorem abK{α:Type}{a b:α}(h:¬a=b):eqv a b=false:=@decide_eq_false _ (Classical.propDecidable _) h
theorem bsp(b:Bool):b=false∨b=true:=by cases b<;>simp
theorem aju{a b:Int}(h:(a==b)=false):(a != b)=true:=by simp[bne,h]
theorem ajv{a b:Int}(h:(a==b)=true):(a != b)=false:=by simp[bne,h]
theorem afR(x y:Sg)(A0 B0:Option Addr)(cA0 cB0:Nat)(w:World)(hlx:x.params.length≤8796093022208)(hly:y.params.length≤8796093022208)(hsx:Sl Lay.str w A0 x.params)(hsy:Sl Lay.str w B0 y.params) :
  Calls Tryz.prog 346 #[.agg #[.string x.name,.bool x.static,.slice A0 x.params.length cA0,.string x.result],.agg #[.string y.name,.bool y.static,.slice B0 y.params.length cB0,.string y.result]] w fun e w'=>e = .returned (.bool (eqv (x.params,x.result) (y.params,y.result)))∧Below w.heap.size w w':=by
 obtain⟨r,HR⟩:∃r,Hid (r=eqv (x.params,x.result) (y.params,y.result)):=⟨_,v9h rfl⟩
 rw[←HR.out]
 go_enter Tryz.func346,Tryz.ntmps346
 go_upto_region 1 with fail
 generalize hW:World.alloc (World.alloc _ _) _=W1 at *
 have hbW:Below w.heap.size w W1:=by rw[←hW];exact(by repeat(first|assumption|exact v9r|apply zc|apply zd|apply zg|apply ze|apply zi))
 have bx:Box W1 w.heap.size [.string x.name,.bool x.static,.slice A0 x.params.length cA0,.string x.result] 36:=by rw[←hW];exact(by repeat(first|(refine Box.at ?_;(simp;done))|apply Box.drew|apply Box.alloc|assumption))
 have bY:Box W1 (w.heap.size+1) [.string y.name,.bool y.static,.slice B0 y.params.length cB0,.string y.result] 36:=by rw[←hW];exact(by repeat(first|(refine Box.at ?_;(simp;done))|apply Box.drew|apply Box.alloc|assumption))
 clear hW;have xl:=bx.lt;have yl:=bY.lt;have x0:=bx.cell 0 rfl;have y0:=bY.cell 0 rfl;have x1:=bx.cell 1 rfl;have y1:=bY.cell 1 rfl;have x2:=bx.cell 2 rfl;have y2:=bY.cell 2 rfl;have x3:=bx.cell 3 rfl;have y3:=bY.cell 3 rfl
 cases tl:((x.params.length:Int)==(y.params.length:Int)) with
 |false=>
  have tl2:=aju tl;have HB:Hid (r=false):=by show r=false;rw[HR.out];exact abK fun h=>by injection h with h1 h2;rw[h1] at tl;simp at tl
  go_wp2_with fail
  go_ret
  exact⟨by rw[HB.out];rfl,hbW⟩
 |true=>
  have tl2:=ajv tl
  cases tr:(x.result.toList==y.result.toList) with
  |false=>
   have HB:Hid (r=false):=by show r=false;rw[HR.out];exact abK fun h=>by injection h with h1 h2;rw[h2] at tr;simp at tr
   go_wp2_with fail
   go_ret
   exact⟨by rw[HB.out];rfl,hbW⟩
  |true=>
   have HL:Hid (x.params.length=y.params.length):=by show _=_;have:=eq_of_beq tl;omega
   have hle:x.params.length≤y.params.length:=by rw[HL.out];exact Nat.le_refl _
   have hge:y.params.length≤x.params.length:=by rw[HL.out];exact Nat.le_refl _
   have HT:Hid (x.result=y.result):=zO.1 tr
   go_wp2_with fail
   go_loopw [5] (fun i wr=>∃k:Nat,k≤x.params.length∧i = .int .i64 k∧Hid (∀i (hi:i<k) (h1:i<x.params.length) (h2:i<y.params.length),x.params[i]=y.params[i])∧Below W1.heap.size W1 wr) (fun i _=>x.params.length-(intOf i).toNat)
   case atStart=>exact⟨0,Nat.zero_le _,rfl,fun i hi=>by omega,v9r⟩
   case round=>
    clear x0 y0 x1 y1 x2 y2 x3 y3 xl yl tl tl2 tr;obtain⟨k,hk,rfl,HE,hbw⟩:=hrel;have bx2:=bx.mono hbw;have by2:=bY.mono hbw;have x2:=bx2.cell 2 rfl;have y2:=by2.cell 2 rfl;have xl:=bx2.lt;have yl:=by2.lt;have hbf:=za hbW hbw
    by_cases hlt:k<x.params.length
    ·have hlt2:k<y.params.length:=by omega
     obtain⟨b,o,rfl,hb,d0⟩:=(hsx.mono hbf).str_at hlt;obtain⟨b2,o2,rfl,hb2,d2⟩:=(hsy.mono hbf).str_at hlt2
     cases hq:(x.params[k].toList==y.params[k].toList) with
     |false=>
      have HB:Hid (r=false):=by
       show r=false;rw[HR.out]
       exact abK fun h=>by
        injection h with h1 h2
        have h3:x.params[k]=y.params[k]:=by simp only[h1]
        rw[h3] at hq;simp at hq
      go_wp2_with fail
      refine zm (by kernel_rfl) (by kernel_rfl) ?_
      repeat(go_big_quiet_step (fail))
      refine wpQuiet_nil ?_;rintro _ ⟨z,rfl⟩
      go_wp2_with fail
      go_ret
      exact⟨by rw[HB.out];rfl,za hbf z.h⟩
     |true=>
      have HE2:Hid (∀i (hi:i<k+1) (h1:i<x.params.length) (h2:i<y.params.length),x.params[i]=y.params[i]):=fun i hi h1 h2=>by
       by_cases e:i=k
       ·subst e;exact zO.1 hq
       ·exact HE.out i (by omega) h1 h2
      go_wp2_with fail
      refine zm (by kernel_rfl) (by kernel_rfl) ?_
      repeat(go_big_quiet_step (fail))
      refine wpQuiet_nil ?_;rintro _ ⟨z,rfl⟩
      go_wp2_with fail
      go_roundw
      case rel=>exact⟨k+1,by omega,by go_num,HE2,za hbw z.h⟩
      case measure=>simp[intOf];omega
    ·have HB:Hid (r=true):=by
      show r=true;rw[HR.out];exact ah1 (by rw[List.ext_getElem HL.out (fun i h1 h2=>HE.out i (by omega) h1 h2),HT.out])
     go_wp2_with fail
     go_ret
     exact⟨by rw[HB.out];rfl,hbf⟩
noncomputable def eqS2(o m:Sg):Bool:=eqv (o.params,o.result) (m.params,m.result)
noncomputable def clEl(m o:Sg):Bool:=o.name.toList==m.name.toList&&(o.static||(m.static || !eqS2 o m))
theorem ae7(m o:Sg):(o.name.toList==m.name.toList && !yB m o)=clEl m o:=by
 unfold clEl yB
 have e:eqv (o.params,o.result) (m.params,m.result)=(decide (m.result=o.result)&&decide (m.params=o.params)):=by
  by_cases h1:m.result=o.result
  ·by_cases h2:m.params=o.params
   ·rw[ah1 (by rw[h1,h2]),decide_eq_true h1,decide_eq_true h2];rfl
   ·rw[abK (fun h=>h2 (by injection h with a b;exact a.symm)),decide_eq_false h2];simp
  ·rw[abK (fun h=>h1 (by injection h with a b;exact b.symm)),decide_eq_false h1];simp
 unfold eqS2;rw[e]
 cases m.static<;>cases o.static<;>simp
theorem agF(A:Option Addr)(c:Nat)(cs:List Cls)(s:ByteArray)(m:Sg)(AP:Option Addr)(cP:Nat)(w:World)(hl:cs.length≤8796093022208)(hsl:Sl Lay.cls w A cs)(hlk:Hid (yp cs))(hpl:m.params.length≤8796093022208)(hp:Sl Lay.str w AP m.params) :
  Calls Tryz.prog 330 #[.agg #[.slice A cs.length c],.string s,.agg #[.string m.name,.bool m.static,.slice AP m.params.length cP,.string m.result]] w fun e w'=>e = .returned (.bool (yq cs (chR cs (fnd cs s)).1.tail m))∧Below w.heap.size w w':=by
 have HFIX:Hid (∀j∈(chR cs (fnd cs s)).1.tail,fnd cs (nmAt cs j)=j):=fun j hj=>ab5 cs s j (List.mem_of_mem_tail hj)
 have HBD:Hid (∀j∈(chR cs (fnd cs s)).1.tail,0≤j∧j<(cs.length:Int)):=fun j hj=>(qj (cs:=cs) (yb cs s).2).1 j (List.mem_of_mem_tail hj)
 have hlen0:=kh (cs:=cs) (yb cs s).2;have hlen:(chR cs (fnd cs s)).1.tail.length≤cs.length:=by rw[List.length_tail];omega
 have HSU:Hid ((zx cs s).tail=(chR cs (fnd cs s)).1.tail.map (nmAt cs)):=by show _=_;unfold zx;rw[List.map_tail]
 clear hlen0;generalize(chR cs (fnd cs s)).1.tail=I at *
 obtain⟨r,HR⟩:∃r,Hid (r=yq cs I m):=⟨_,v9h rfl⟩
 rw[←HR.out];have hslen:(zx cs s).tail.length=I.length:=by rw[HSU.out,List.length_map]
 have HNM:Hid (∀k (h:k<I.length) (h2:k<(zx cs s).tail.length),(zx cs s).tail[k]=nmAt cs I[k]):=fun k h h2=>by simp[HSU.out]
 go_enter Tryz.func330,Tryz.ntmps330
 go_upto_region 1 with fail
 generalize hW:World.alloc _ _=W1 at *
 have hb0:Below w.heap.size w W1:=by rw[←hW];exact(by repeat(first|assumption|exact v9r|apply zc|apply zd|apply zg|apply ze|apply zi))
 have bh0:Box W1 w.heap.size [.slice A cs.length c] 29:=by rw[←hW];exact(by repeat(first|(refine Box.at ?_;(simp;done))|apply Box.drew|apply Box.alloc|assumption))
 have bm0:Box W1 (w.heap.size+1) [.string m.name,.bool m.static,.slice AP m.params.length cP,.string m.result] 36:=by rw[←hW];exact(by repeat(first|(refine Box.at ?_;(simp;done))|apply Box.drew|apply Box.alloc|assumption))
 clear hW;have h0:=bh0.cell 0 rfl;have hlh:=bh0.lt
 go_wp2_with fail
 refine(aim A c cs s _ hl (hsl.mono hb0)).mono ?_;rintro e w1 ⟨⟨v1,rfl,hv1⟩,hb1⟩;have bh2:=bh0.mono hb1;have bm2:=bm0.mono hb1;have hbw1:=za hb0 hb1;obtain⟨A1,c1,rfl,hc1,hs1⟩:=hv1;generalize(zx cs s).tail=N at *
 clear hb0 hb1 bh0 bm0 h0 hlh
 go_wp2_with fail
 go_loopw [8] (fun i wr=>∃k:Nat,k≤N.length∧i = .int .i64 k∧Hid (∀i (h:i<k) (hi:i<I.length),((mths cs I[i]).any fun o=>o.name.toList==m.name.toList && !yB m o)=false)∧Below w1.heap.size w1 wr) (fun i _=>N.length-(intOf i).toNat)
 case atStart=>exact⟨0,Nat.zero_le _,rfl,fun i hi=>by omega,v9r⟩
 case round=>
  obtain⟨k,hk,rfl,HK,hbr⟩:=hrel;have bh:=bh2.mono hbr;have bm:=bm2.mono hbr;have hbw:=za hbw1 hbr;have hs1r:=hs1.mono hbr
  by_cases hlt:k<N.length
  ·have hki:k<I.length:=by omega
   have hIb:=HBD.out _ (List.getElem_mem hki);have hIf:=HFIX.out _ (List.getElem_mem hki);have hNk:=HNM.out k hki hlt;obtain⟨n,hIn⟩:∃n:Nat,I[k]=n:=⟨I[k].toNat,by omega⟩
   rw[hIn] at hIb hIf hNk;have hn:n<cs.length:=by omega
   rw[qh hn] at hNk;have HX:Hid (fnd cs N[k]=n):=by show _=_;rw[hNk];rw[qh hn] at hIf;exact hIf
   have HHIT:Hid (∀j (hj:j<cs[n].methods.length),clEl m cs[n].methods[j]=true→r=true):=fun j hj h=>by
    rw[HR.out];exact agm hki hIn hn hj (by rw[ae7];exact h)
   have HNXT:Hid ((∀j (hj:j<cs[n].methods.length),clEl m cs[n].methods[j]=false)→∀i (h:i<k+1) (hi:i<I.length),((mths cs I[i]).any fun o=>o.name.toList==m.name.toList && !yB m o)=false):=fun hh i h hi=>by
    by_cases e:i=k
    ·subst e
     rw[hIn,jI hn,List.any_eq_false];intro o ho;obtain⟨j,hj,rfl⟩:=List.getElem_of_mem ho;rw[ae7,hh j hj];simp
    ·exact HK.out i (by omega) hi
   clear hIf hNk hIb hIn;have hml:=(hlk.out _ (List.getElem_mem hn)).2.1;have HPL:Hid (∀j (hj:j<cs[n].methods.length),cs[n].methods[j].params.length≤8796093022208):=fun j hj=>(hlk.out _ (List.getElem_mem hn)).2.2 _ (List.getElem_mem hj)
   obtain⟨bN,oN,rfl,hbN,n0⟩:=hs1r.str_at hlt;obtain⟨b0,o,A2,c2,A3,c3,rfl,hbo,d0,d1,d2,d3,hc2,hs2,hc3,hs3⟩:=hsl.cls_at hn;have hb:=Nat.lt_of_lt_of_le hbo hbw.size;replace d0:=keptC d0 hbo hbw;replace d1:=keptC d1 hbo hbw;replace d2:=keptC d2 hbo hbw;replace d3:=keptC d3 hbo hbw;have h0:=bh.cell 0 rfl;have hlh:=bh.lt
   have HFD:Hid (∀W,Below w.heap.size w W→Calls Tryz.prog 42 #[.agg #[.slice (some ⟨b0,o,none⟩) cs.length c],.string N[k]] W fun e w'=>e = .returned (.int .i64 (n:Int))∧Below W.heap.size W w'):=fun W hW=>by
    have:=qK (some ⟨b0,o,none⟩) c cs N[k] W hl (hsl.mono hW);rw[HX.out] at this;exact this
   go_upto_region 5 with fail
   go_cut [9] (fun s9 wx=>∃g,s9 = .pointer (some ⟨g,0,none⟩)∧Box wx g [.string cs[n].name,.string cs[n].super,.slice A2 cs[n].fields.length c2,.slice A3 cs[n].methods.length c3] 94∧Below wr.heap.size wr wx)
   case first=>
    refine zt 12 (by kernel_rfl) (by kernel_rfl) ?_;refine RZ.chunk (f:=5) [0,1,2,3,4,5,6] (by kernel_rfl) ?_
    ((simp only[zo,List.filterMap,List.getElem?_toArray,List.getElem?_cons_zero,List.getElem?_cons_succ]);(repeat(go_big_quiet_step (fail)));refine wpQuiet_nil ?_)
    refine RZ.both 7 10 rfl rfl (by kernel_rfl) (by omega) (by omega) ?_ ?_
    ·intro K hK
     go_wp2_with fail
     refine(HFD.out _ hbw.drew).mono ?_;rintro e w6 ⟨rfl,hb6⟩;have hb6':Below wr.heap.size wr w6:=za (v9r).drew hb6
     go_wp2_with fail
     refine hK _ _ hb6 ?_;clear hK;refine RZ.chunk (f:=2) [8,9] (by kernel_rfl) ?_
     ((simp only[zo,List.filterMap,List.getElem?_toArray,List.getElem?_cons_zero,List.getElem?_cons_succ]);(repeat(go_big_quiet_step (fail)));refine wpQuiet_nil ?_)
     refine RZ.single 10 rfl (by kernel_rfl) (by omega) ?_;intro K hK
     go_wp2_with fail
     refine hK _ _ (zc hb6) ?_;clear hK;refine RZ.single 11 rfl (by kernel_rfl) (by omega) ?_;intro K hK
     go_wp2_with fail
     refine hK _ _ (zc hb6) ?_;clear hK
     (refine RZ.done (by kernel_rfl) (by kernel_rfl) ?_)
     go_wp2_with fail
     go_meet
     exact⟨_,rfl,Box.new _ _ _,zc hb6'⟩
    ·intro K hK
     go_wp2_with fail
     refine hK _ _ (zc (v9r)) ?_;clear hK;generalize hW:World.drew (World.alloc _ _)=W2;have hbz:Below wr.drew.heap.size wr.drew W2:=by rw[←hW];exact zc (v9r)
     have hbz2:Below wr.heap.size wr W2:=za (v9r).drew hbz;have byz:Box W2 wr.heap.size [.string ByteArray.empty,.string ByteArray.empty,.slice none 0 0,.slice none 0 0] 94:=by rw[←hW];exact(Box.new _ _ _).drew
     clear hW;refine RZ.single 7 rfl (by kernel_rfl) (by omega) ?_;intro K hK
     go_wp2_with fail
     refine(HFD.out _ (za hbw hbz2)).mono ?_;rintro e w6 ⟨rfl,hb6⟩;have hb7:=za hbz hb6;have hb7':Below wr.heap.size wr w6:=za hbz2 hb6;have by6:=byz.mono hb6
     go_wp2_with fail
     refine hK _ _ hb7 ?_;clear hK;refine RZ.chunk (f:=1) [8,9] (by kernel_rfl) ?_
     ((simp only[zo,List.filterMap,List.getElem?_toArray,List.getElem?_cons_zero,List.getElem?_cons_succ]);(repeat(go_big_quiet_step (fail)));refine wpQuiet_nil ?_)
     have yl6:=by6.lt;have yf:=fun i=>by6.free i
     have y0:=by6.cell 0 rfl;have y1:=by6.cell 1 rfl;have y2:=by6.cell 2 rfl;have y3:=by6.cell 3 rfl;obtain⟨by9,hg9⟩:=by6.store4 (.string cs[n].name) (.string cs[n].super) (.slice A2 cs[n].fields.length c2) (.slice A3 cs[n].methods.length c3);have hb9:=hb7'.grown hg9 hb7'.size (fun k hk=>by injection hk with hk;omega);have hb9d:=hb7.grown hg9 hb7.size (fun k hk=>by injection hk with hk;have:wr.drew.heap.size=wr.heap.size:=rfl;omega);refine RZ.single 11 rfl (by kernel_rfl) (by omega) ?_;intro K hK
     go_wp2_with fail
     refine hK _ _ hb9d ?_;clear hK
     (refine RZ.done (by kernel_rfl) (by kernel_rfl) ?_)
     go_wp2_with fail
     go_meet
     exact⟨_,rfl,by9,hb9⟩
   case rest=>
    obtain⟨g,rfl,bc,hbx⟩:=hcut;clear h0 hlh d0 d1 d2 d3 n0 HFD;have hbrx:=za hbr hbx;have bmx:=bm.mono hbx;have hbwx:=za hbw hbx;clear hs2 hbx hbr bh bm hbw hs1r
    go_wp2_with fail
    go_loopw [10] (fun i wz=>∃j:Nat,j≤cs[n].methods.length∧i = .int .i64 j∧Hid (∀i (hi:i<j) (hi2:i<cs[n].methods.length),clEl m cs[n].methods[i]=false)∧Below wc.heap.size wc wz) (fun i _=>cs[n].methods.length-(intOf i).toNat)
    case atStart=>exact⟨0,Nat.zero_le _,rfl,fun i hi=>by omega,v9r⟩
    case round=>
     obtain⟨j,hj,rfl,HJ,hbz⟩:=hrel;have hbwz:=za hbwx hbz;have hbrz:=za hbrx hbz;have bcz:=bc.mono hbz;have bmz:=bmx.mono hbz;have k3:=bcz.cell 3 rfl;have kl:=bcz.lt
     by_cases hjl:j<cs[n].methods.length
     ·obtain⟨bM,oM,A4,c4,rfl,hbM,m0,m1,m2,m3,hc4,hs4⟩:=(hs3.mono hbwz).sg_at hjl
      have hopl:=HPL.out j hjl;have HH:=v9h (HHIT.out j hjl)
      have HJ2:Hid (clEl m cs[n].methods[j]=false→∀i (hi:i<j+1) (hi2:i<cs[n].methods.length),clEl m cs[n].methods[i]=false):=fun h i hi hi2=>by
       by_cases e:i=j
       ·subst e;exact h
       ·exact HJ.out i (by omega) hi2
      clear HJ;generalize cs[n].methods[j]=o' at *
      have g0:=bmz.cell 0 rfl;have g1:=bmz.cell 1 rfl;have g2:=bmz.cell 2 rfl;have g3:=bmz.cell 3 rfl;have gl:=bmz.lt;have HS:Hid (∀y:zk wr,Calls Tryz.prog 346 #[.agg #[.string o'.name,.bool o'.static,.slice A4 o'.params.length c4,.string o'.result],.agg #[.string m.name,.bool m.static,.slice AP m.params.length cP,.string m.result]] y.W fun e w'=>e = .returned (.bool (eqS2 o' m))∧Below y.W.heap.size y.W w'):=fun y=>afR o' m A4 AP c4 cP y.W hopl hpl (hs4.mono y.h) (hp.mono (za hbwz y.h))
      obtain⟨q,HQ⟩:∃q,Hid (q=clEl m o'):=⟨_,v9h rfl⟩
      rw[←HQ.out] at HH HJ2;have HQ2:Hid (q=(o'.name.toList==m.name.toList&&(o'.static||(m.static || !eqS2 o' m)))):=HQ.out;clear HQ
      go_upto_region 9 with fail
      go_cut [67] (fun s wy=>s = .bool q∧Below wr.heap.size wr wy)
      case first=>
       generalize eqS2 o' m=e4 at *
       cases e1:(o'.name.toList==m.name.toList) with
       |false=>
        have HB:Hid (q=false):=by show _=_;rw[HQ2.out,e1];rfl
        refine zm (by kernel_rfl) (by kernel_rfl) ?_
        repeat(go_big_quiet_step (fail))
        refine wpQuiet_nil ?_;rintro _ ⟨y,rfl⟩
        go_wp2_with fail
        go_meet
        exact⟨by rw[HB.out],y.h⟩
       |true=>
       cases e2:o'.static with
       |true=>
        rw[e2] at m1;have HB:Hid (q=true):=by show _=_;rw[HQ2.out,e1,e2];rfl
        refine zm (by kernel_rfl) (by kernel_rfl) ?_
        repeat(go_big_quiet_step (fail))
        refine wpQuiet_nil ?_;rintro _ ⟨y,rfl⟩
        go_wp2_with fail
        go_meet
        exact⟨by rw[HB.out],y.h⟩
       |false=>
       rw[e2] at m1 HS
       rcases bsp m.static with e3|e3
       rotate_left
       ·skip
        rw[e3] at g1;have HB:Hid (q=true):=by show _=_;rw[HQ2.out,e1,e2,e3];rfl
        refine zm (by kernel_rfl) (by kernel_rfl) ?_
        repeat(go_big_quiet_step (fail))
        refine wpQuiet_nil ?_;rintro _ ⟨y,rfl⟩
        go_wp2_with fail
        go_meet
        exact⟨by rw[HB.out],y.h⟩
       ·skip
        rw[e3] at g1 HS;have HB:Hid (q = !e4):=by show _=_;rw[HQ2.out,e1,e2,e3];rfl
        refine zm (by kernel_rfl) (by kernel_rfl) ?_
        repeat(go_big_quiet_step ((go_at_call 346;with_reducible exact Calls.later (HS.out _))))
        refine wpQuiet_nil ?_;rintro _ ⟨y,rfl⟩
        go_wp2_with fail
        go_meet
        exact⟨by rw[HB.out],y.h⟩
      case rest=>
      obtain⟨rfl,hby⟩:=hcut;have hbwy:=za hbwz hby
      cases q with
      |true=>
       have HB:=v9h (HH.out rfl)
       go_wp2_with fail
       go_ret
       exact⟨by rw[HB.out];rfl,hbwy⟩
      |false=>
       have HJ3:=v9h (HJ2.out rfl)
       go_wp2_with fail
       go_roundw
       case rel=>exact⟨j+1,by omega,by go_num,HJ3,za hbz hby⟩
       case measure=>simp[intOf];omega
     ·have HK2:=v9h (HNXT.out (fun i hi=>HJ.out i (by omega) hi))
      go_wp2_with fail
      go_roundw
      case rel=>exact⟨k+1,by omega,by go_num,HK2,hbrz⟩
      case measure=>simp[intOf];omega
  ·have HB:Hid (r=false):=by
    show r=false;rw[HR.out];exact aeu (fun i hi=>HK.out i (by omega) hi)
   go_wp2_with fail
   go_ret
   exact⟨by rw[HB.out];rfl,hbw⟩
theorem Sl.fldC{w:World}{A:Option Addr}{l:List Fld}(h:Sl Lay.fld w A l)(h0:0<l.length):∃b o:Nat,A=some ⟨b,o,none⟩∧∀W,Below w.heap.size w W→b<W.heap.size∧∀i (hi:i<l.length),W.cell? ⟨b,o+i*2,none⟩=some (.string l[i].name)∧W.cell? ⟨b,o+i*2+1,none⟩=some (.string l[i].typ):=by
 obtain⟨b,o,rfl,_,_,_⟩:=h.fld_at h0;refine⟨b,o,rfl,fun W hW=>?_⟩;have h2:=h.mono hW;obtain⟨b1,o1,e,hb,_,_⟩:=h2.fld_at h0;simp only[Option.some.injEq,Addr.mk.injEq] at e;obtain⟨rfl,rfl,_⟩:=e;refine⟨hb,fun i hi=>?_⟩;obtain⟨b2,o2,e,hb2,d0,d1⟩:=h2.fld_at hi;simp only[Option.some.injEq,Addr.mk.injEq] at e;obtain⟨rfl,rfl,_⟩:=e;exact⟨d0,d1⟩
theorem Sl.sgC{w:World}{A:Option Addr}{l:List Sg}(h:Sl Lay.sg w A l)(h0:0<l.length):∃b o:Nat,A=some ⟨b,o,none⟩∧∀W,Below w.heap.size w W→b<W.heap.size∧∀i (hi:i<l.length),∃(A2:Option Addr) (c2:Nat),W.cell? ⟨b,o+i*4,none⟩=some (.string l[i].name)∧W.cell? ⟨b,o+i*4+1,none⟩=some (.bool l[i].static)∧W.cell? ⟨b,o+i*4+2,none⟩=some (.slice A2 l[i].params.length c2)∧W.cell? ⟨b,o+i*4+3,none⟩=some (.string l[i].result)∧l[i].params.length≤c2∧Sl Lay.str W A2 l[i].params:=by
 obtain⟨b,o,A2,c2,rfl,_⟩:=h.sg_at h0;refine⟨b,o,rfl,fun W hW=>?_⟩;have h2:=h.mono hW;obtain⟨b1,o1,A3,c3,e,hb,_⟩:=h2.sg_at h0;simp only[Option.some.injEq,Addr.mk.injEq] at e;obtain⟨rfl,rfl,_⟩:=e;refine⟨hb,fun i hi=>?_⟩;obtain⟨b2,o2,A4,c4,e,hb2,d0,d1,d2,d3,hc,hs⟩:=h2.sg_at hi;simp only[Option.some.injEq,Addr.mk.injEq] at e;obtain⟨rfl,rfl,_⟩:=e;exact⟨A4,c4,d0,d1,d2,d3,hc,hs⟩
theorem Sl.clsC{w:World}{A:Option Addr}{l:List Cls}(h:Sl Lay.cls w A l){i:Nat}(hi:i<l.length):∃(b o:Nat) (A2:Option Addr) (c2:Nat) (A3:Option Addr) (c3:Nat),A=some ⟨b,o,none⟩∧l[i].fields.length≤c2∧l[i].methods.length≤c3∧Sl Lay.fld w A2 l[i].fields∧Sl Lay.sg w A3 l[i].methods∧
  ∀W,Below w.heap.size w W→b<W.heap.size∧W.cell? ⟨b,o+i*4,none⟩=some (.string l[i].name)∧W.cell? ⟨b,o+i*4+1,none⟩=some (.string l[i].super)∧W.cell? ⟨b,o+i*4+2,none⟩=some (.slice A2 l[i].fields.length c2)∧W.cell? ⟨b,o+i*4+3,none⟩=some (.slice A3 l[i].methods.length c3):=by
 obtain⟨b,o,A2,c2,A3,c3,rfl,hb,d0,d1,d2,d3,hc2,hs2,hc3,hs3⟩:=h.cls_at hi;exact⟨b,o,A2,c2,A3,c3,rfl,hc2,hc3,hs2,hs3,fun W hW=>⟨Nat.lt_of_lt_of_le hb hW.size,keptC d0 hb hW,keptC d1 hb hW,keptC d2 hb hW,keptC d3 hb hW⟩⟩
theorem aeL(A:Option Addr)(c:Nat)(cs:List Cls)(i:Nat)(w:World)(hl:cs.length≤8796093022208)(hsl:Sl Lay.cls w A cs)(hlk:Hid (yp cs))(hok:Hid (yQ cs))(hi:i<cs.length)(hac:(chR cs i).2=false) :
  Calls Tryz.prog 301 #[.agg #[.slice A cs.length c],.int .i64 i] w fun e w'=>e = .returned (.int .i64 (frst (fldF cs cs[i] (chR cs i).1.tail) cs[i].fields.length))∧Below w.heap.size w w':=by
 have HUP:=v9h (fun n=>ahe hi hac n);clear hac;have hfl:=(hlk.out _ (List.getElem_mem hi)).1;have HOK:=v9h (hok.out _ (List.getElem_mem hi)).2.1;have HF:Hid (∀j (hj:j<cs[i].fields.length),fldF cs cs[i] (chR cs i).1.tail j=fldE cs cs[i].fields (chR cs i).1.tail j cs[i].fields[j]):=fun j hj=>qZ hj
 obtain⟨r,HR⟩:∃r,Hid (r=frst (fldF cs cs[i] (chR cs i).1.tail) cs[i].fields.length):=⟨_,v9h rfl⟩
 rw[←HR.out];obtain⟨b0,o,A2,c2,A3,c3,rfl,hc2,hc3,hs2,hs3,HD⟩:=hsl.clsC hi;replace HD:=v9h HD;have hiI:(i:Int)<cs.length:=by omega
 generalize(chR cs i).1.tail=T at *
 generalize cs[i]=x at *
 go_enter Tryz.func301,Tryz.ntmps301
 go_upto_region 1 with fail
 generalize hW:World.alloc _ _=W1 at *
 have hb1:Below w.heap.size w W1:=by rw[←hW];exact(by repeat(first|assumption|exact v9r|apply zc|apply zd|apply zg|apply ze|apply zi))
 have bh:Box W1 w.heap.size [.slice (some ⟨b0,o,none⟩) cs.length c] 29:=by rw[←hW];exact(by repeat(first|(refine Box.at ?_;(simp;done))|apply Box.drew|apply Box.alloc|assumption))
 clear hW;have h0:=bh.cell 0 rfl;have hlh:=bh.lt;obtain⟨e0,d0,d1,d2,d3⟩:=HD.out _ hb1
 go_wp2_with fail
 clear h0 hlh e0 d0 d1 d2 d3
 go_loopw [6] (fun v wr=>∃j:Nat,j≤x.fields.length∧v = .int .i64 j∧Hid (frst (fldF cs x T) j=0)∧Below W1.heap.size W1 wr) (fun v _=>x.fields.length-(intOf v).toNat)
 case atStart=>exact⟨0,Nat.zero_le _,rfl,v9h rfl,v9r⟩
 case round=>
  obtain⟨j,hj,rfl,HZ,hbr⟩:=hrel;have hbw:=za hb1 hbr
  by_cases hlt:j<x.fields.length
  ·obtain⟨bF,oF,rfl,HFC⟩:=hs2.fldC (by omega)
   replace HFC:=v9h HFC;have hoj:=HOK.out _ (List.getElem_mem hlt);have HFE:Hid (fldF cs x T j=fldE cs x.fields T j x.fields[j]):=HF.out j hlt;have HHIT:=v9h (fun(e:Int) (h1:fldF cs x T j=e) (he:e≠0)=>HR.out.trans ((jk (f:=fldF cs x T) HZ.out (k:=j) (n:=x.fields.length) (by rw[h1];exact he) hlt).trans h1));have HU:=HUP.out x.fields[j].name;replace HU:=v9h HU;obtain⟨hbF,HC0⟩:=HFC.out _ hbw;obtain⟨f0,f1⟩:=HC0 j hlt;have HIX:Hid (∀k (hk:k<j),ye x.fields[j].name (x.fields[k]'(by omega))=true→idxI (ye x.fields[j].name) x.fields<j):=fun k hk h=>kZ hlt hk h
   have HIN:Hid ((∀k (hk:k<j),ye x.fields[j].name (x.fields[k]'(by omega))=false)→¬idxI (ye x.fields[j].name) x.fields<j):=fun h=>acw hlt h (by unfold ye;exact zO.2 rfl)
   clear HC0
   go_wp2_with fail
   refine(jV x.fields[j].name _ (jJ hoj.1)).mono ?_;rintro e w2 ⟨rfl,hb2⟩;have hbw2:=za hbw hb2
   cases q1:zC x.fields[j].name with
   |false=>
    have HB:Hid (r=5):=HHIT.out 5 (by rw[HFE.out];unfold fldE;rw[q1];rfl) (by decide)
    go_wp2_with fail
    go_ret
    exact⟨by rw[HB.out];rfl,hbw2⟩
   |true=>
   have HFE2:Hid (fldF cs x T j=if !isTy cs x.fields[j].typ then 8 else if idxI (ye x.fields[j].name) x.fields<j then 7 else if T.any (fun i=>decide (0≤fIdx cs x.fields[j].name i)) then 7 else 0):=by show _=_;rw[HFE.out];unfold fldE;rw[q1];rfl
   clear HFE q1 f0 f1 hbF;obtain⟨hbF,HC0⟩:=HFC.out _ hbw2;obtain⟨f0,f1⟩:=HC0 j hlt;clear HC0;have bh2:=(bh.mono hbr).mono hb2;have h0:=bh2.cell 0 rfl;have hlh:=bh2.lt;have HC1:Hid (∀y:zk w2,Calls Tryz.prog 267 #[.agg #[.slice (some ⟨b0,o,none⟩) cs.length c],.string x.fields[j].typ] y.W fun e w'=>e = .returned (.bool (isTy cs x.fields[j].typ))∧Below y.W.heap.size y.W w'):=fun y=>xd _ c cs _ y.W hl (hsl.mono (za hbw2 y.h))
   generalize isTy cs x.fields[j].typ=q2 at *
   go_upto_region 7 with fail
   refine zm (by kernel_rfl) (by kernel_rfl) ?_
   repeat(go_big_quiet_step ((go_at_call 267;with_reducible exact Calls.later (HC1.out _))))
   refine wpQuiet_nil ?_;rintro _ ⟨y,rfl⟩;have hbw3:=za hbw2 y.h;have hbr3:=za (za hbr hb2) y.h;have bh3:=bh2.mono y.h;obtain⟨W3,hW3⟩:∃W3,W3=y.W:=⟨_,rfl⟩
   rw[←hW3] at hbw3 hbr3 bh3 ⊢;clear hW3 HC1 h0 hlh f0 f1 hbF bh2
   cases q2 with
   |false=>
    have HB:Hid (r=8):=HHIT.out 8 (by rw[HFE2.out];rfl) (by decide)
    go_wp2_with fail
    go_ret
    exact⟨by rw[HB.out];rfl,hbw3⟩
   |true=>
   have HFE3:Hid (fldF cs x T j=if idxI (ye x.fields[j].name) x.fields<j then 7 else if T.any (fun i=>decide (0≤fIdx cs x.fields[j].name i)) then 7 else 0):=by show _=_;rw[HFE2.out];rfl
   clear HFE2
   go_wp2_with fail
   go_loopw [7] (fun v wz=>∃k:Nat,k≤j∧v = .int .i64 k∧Hid (∀i (hi:i<k) (h:i<x.fields.length),ye x.fields[j].name x.fields[i]=false)∧Below W3.heap.size W3 wz) (fun v _=>j-(intOf v).toNat)
   case atStart=>exact⟨0,Nat.zero_le _,rfl,fun i hi=>by omega,v9r⟩
   case round=>
    obtain⟨k,hk,rfl,HK,hbz⟩:=hrel;have hbwz:=za hbw3 hbz;have hbrz:=za hbr3 hbz;obtain⟨hbF,HC0⟩:=HFC.out _ hbwz;obtain⟨f0,f1⟩:=HC0 j hlt
    by_cases hkj:k<j
    ·have hkl:k<x.fields.length:=by omega
     obtain⟨g0,g1⟩:=HC0 k hkl;clear HC0
     cases q3:ye x.fields[j].name x.fields[k] with
     |true=>
      have HB:Hid (r=7):=HHIT.out 7 (by rw[HFE3.out,if_pos (HIX.out k hkj q3)]) (by decide);unfold ye at q3
      go_upto_region 12 with fail
      refine zm (by kernel_rfl) (by kernel_rfl) ?_
      repeat(go_big_quiet_step (fail))
      refine wpQuiet_nil ?_;rintro _ ⟨y,rfl⟩
      go_wp2_with fail
      go_ret
      exact⟨by rw[HB.out];rfl,za hbwz y.h⟩
     |false=>
      have HK2:Hid (∀i (hi:i<k+1) (h:i<x.fields.length),ye x.fields[j].name x.fields[i]=false):=fun i hi h=>by
       by_cases e:i=k
       ·subst e;exact q3
       ·exact HK.out i (by omega) h
      unfold ye at q3
      go_upto_region 12 with fail
      refine zm (by kernel_rfl) (by kernel_rfl) ?_
      repeat(go_big_quiet_step (fail))
      refine wpQuiet_nil ?_;rintro _ ⟨y,rfl⟩
      go_wp2_with fail
      go_roundw
      case rel=>exact⟨k+1,by omega,by go_num,HK2,za hbz y.h⟩
      case measure=>simp[intOf];omega
    ·clear HC0
     have HFE4:Hid (fldF cs x T j=if T.any (fun i=>decide (0≤fIdx cs x.fields[j].name i)) then 7 else 0):=by
      show _=_;rw[HFE3.out,if_neg (by have:=HIN.out (fun i hi=>HK.out i (by omega) (by omega));omega)]
     have HFE5:Hid (fldF cs x T j=if((zz cs x.super x.fields[j].name).2.2 && !x.super.toList.isEmpty)=true then 7 else 0):=by show _=_;rw[HFE4.out,HU.out]
     clear HFE3 HFE4 HK;have bhz:=bh3.mono hbz;have h0:=bhz.cell 0 rfl;have hlh:=bhz.lt;obtain⟨e0,d0,d1,d2,d3⟩:=HD.out _ hbwz;have HC1:Hid (∀y:zk wr,Calls Tryz.prog 328 #[.agg #[.slice (some ⟨b0,o,none⟩) cs.length c],.string x.super,.string x.fields[j].name] y.W fun e w'=>e = .returned (.tuple #[.string (zz cs x.super x.fields[j].name).1,.string (zz cs x.super x.fields[j].name).2.1,.bool (zz cs x.super x.fields[j].name).2.2])∧Below y.W.heap.size y.W w'):=fun y=>afP _ c cs _ _ y.W hl (hsl.mono (za hbwz y.h)) hlk
     generalize(zz cs x.super x.fields[j].name).1=p1 at *
     generalize(zz cs x.super x.fields[j].name).2.1=p2 at *
     generalize(zz cs x.super x.fields[j].name).2.2=p3 at *
     go_upto_region 14 with fail
     refine zm (by kernel_rfl) (by kernel_rfl) ?_
     repeat(go_big_quiet_step ((go_at_call 328;with_reducible exact Calls.later (HC1.out _))))
     refine wpQuiet_nil ?_;rintro _ ⟨y,rfl⟩;have hbw5:=za hbwz y.h;have hbr5:=za hbrz y.h;have bh5:=bhz.mono y.h;obtain⟨W5,hW5⟩:∃W5,W5=y.W:=⟨_,rfl⟩
     rw[←hW5] at hbw5 hbr5 bh5 ⊢;clear hW5 HC1 h0 hlh e0 d0 d1 d2 d3 f0 f1 hbF;have h0:=bh5.cell 0 rfl;have hlh:=bh5.lt;obtain⟨e0,d0,d1,d2,d3⟩:=HD.out _ hbw5
     cases p3 with
     |false=>
      have HN:=v9h (yz HZ.out (show fldF cs x T j=0 by rw[HFE5.out];rfl))
      go_wp2_with fail
      go_roundw
      case rel=>exact⟨j+1,by omega,by go_num,HN,hbr5⟩
      case measure=>simp[intOf];omega
     |true=>
      rcases xm x.super with⟨e1,e2,e3⟩|⟨e1,e2,e3⟩
      ·have HN:=v9h (yz HZ.out (show fldF cs x T j=0 by rw[HFE5.out,e1];rfl))
       go_wp2_with fail
       go_roundw
       case rel=>exact⟨j+1,by omega,by go_num,HN,hbr5⟩
       case measure=>simp[intOf];omega
      ·have HB:Hid (r=7):=HHIT.out 7 (by rw[HFE5.out,e1];rfl) (by decide)
       go_wp2_with fail
       go_ret
       exact⟨by rw[HB.out];rfl,hbw5⟩
  ·have HB:Hid (r=0):=by
    have he:j=x.fields.length:=by omega
    show r=0;rw[HR.out,←he];exact HZ.out
   go_wp2_with fail
   go_ret
   exact⟨by rw[HB.out];rfl,hbw⟩
theorem ahs(cs:List Cls)(ms:List Sg)(T:List Int)(k:Nat)(m:Sg):mthE cs ms T k m=if !zC m.name then 5 else if idxI (isSg m.name) ms<k then 7 else if 6<m.params.length then 3 else if tysE cs m≠0 then tysE cs m else if yq cs T m then 11 else 0:=by
 unfold mthE tysE
 cases zC m.name with
 |false=>rfl
 |true=>
  by_cases h1:idxI (isSg m.name) ms<k
  ·simp[h1]
  ·by_cases h2:6<m.params.length
   ·simp[h1,h2]
   ·cases m.params.all (isTy cs) with
    |false=>simp[h1,h2]
    |true=>
     cases (m.result.toList.isEmpty||isTy cs m.result) with
     |false=>simp[h1,h2]
     |true=>simp[h1,h2]
theorem afS(A:Option Addr)(c:Nat)(cs:List Cls)(i:Nat)(w:World)(hl:cs.length≤8796093022208)(hsl:Sl Lay.cls w A cs)(hlk:Hid (yp cs))(hok:Hid (yQ cs))(hi:i<cs.length)(hfn:fnd cs cs[i].name=i) :
  Calls Tryz.prog 302 #[.agg #[.slice A cs.length c],.int .i64 i] w fun e w'=>e = .returned (.int .i64 (frst (mthF cs cs[i] (chR cs i).1.tail) cs[i].methods.length))∧Below w.heap.size w w':=by
 have hfl:=(hlk.out _ (List.getElem_mem hi)).2.1;have HPL:=v9h (hlk.out _ (List.getElem_mem hi)).2.2;have HOK:=v9h (hok.out _ (List.getElem_mem hi)).2.2;have HF:Hid (∀j (hj:j<cs[i].methods.length),mthF cs cs[i] (chR cs i).1.tail j=mthE cs cs[i].methods (chR cs i).1.tail j cs[i].methods[j]):=fun j hj=>jM hj
 obtain⟨r,HR⟩:∃r,Hid (r=frst (mthF cs cs[i] (chR cs i).1.tail) cs[i].methods.length):=⟨_,v9h rfl⟩
 rw[←HR.out];obtain⟨b0,o,A2,c2,A3,c3,rfl,hc2,hc3,hs2,hs3,HD⟩:=hsl.clsC hi;replace HD:=v9h HD;have HOV:=v9h (fun(m:Sg) AP cP W (h:Below w.heap.size w W) h1 h2=>agF (some ⟨b0,o,none⟩) c cs cs[i].name m AP cP W hl (hsl.mono h) hlk h1 h2);rw[hfn] at HOV;clear hfn;have hiI:(i:Int)<cs.length:=by omega
 generalize(chR cs i).1.tail=T at *
 generalize cs[i]=x at *
 go_enter Tryz.func302,Tryz.ntmps302
 go_upto_region 1 with fail
 generalize hW:World.alloc _ _=W1 at *
 have hb1:Below w.heap.size w W1:=by rw[←hW];exact(by repeat(first|assumption|exact v9r|apply zc|apply zd|apply zg|apply ze|apply zi))
 have bh:Box W1 w.heap.size [.slice (some ⟨b0,o,none⟩) cs.length c] 29:=by rw[←hW];exact(by repeat(first|(refine Box.at ?_;(simp;done))|apply Box.drew|apply Box.alloc|assumption))
 clear hW;have h0:=bh.cell 0 rfl;have hlh:=bh.lt;obtain⟨e0,d0,d1,d2,d3⟩:=HD.out _ hb1
 go_wp2_with fail
 clear h0 hlh e0 d0 d1 d2 d3
 go_loopw [6] (fun v wr=>∃j:Nat,j≤x.methods.length∧v = .int .i64 j∧Hid (frst (mthF cs x T) j=0)∧Below W1.heap.size W1 wr) (fun v _=>x.methods.length-(intOf v).toNat)
 case atStart=>exact⟨0,Nat.zero_le _,rfl,v9h rfl,v9r⟩
 case round=>
  obtain⟨j,hj,rfl,HZ,hbr⟩:=hrel;have hbw:=za hb1 hbr
  by_cases hlt:j<x.methods.length
  ·obtain⟨bF,oF,rfl,HFC⟩:=hs3.sgC (by omega)
   replace HFC:=v9h HFC;have hoj:=HOK.out _ (List.getElem_mem hlt);have hpj:=HPL.out _ (List.getElem_mem hlt);have HFE:Hid (mthF cs x T j=if !zC x.methods[j].name then 5 else if idxI (isSg x.methods[j].name) x.methods<j then 7 else if 6<x.methods[j].params.length then 3 else if tysE cs x.methods[j]≠0 then tysE cs x.methods[j] else if yq cs T x.methods[j] then 11 else 0):=by show _=_;rw[HF.out j hlt,ahs]
   have HHIT:=v9h (fun(e:Int) (h1:mthF cs x T j=e) (he:e≠0)=>HR.out.trans ((jk (f:=mthF cs x T) HZ.out (k:=j) (n:=x.methods.length) (by rw[h1];exact he) hlt).trans h1));obtain⟨hbF,HC0⟩:=HFC.out _ hbw;obtain⟨AP,cP,f0,f1,f2,f3,hcP,hsP⟩:=HC0 j hlt;have HIX:Hid (∀k (hk:k<j),isSg x.methods[j].name (x.methods[k]'(by omega))=true→idxI (isSg x.methods[j].name) x.methods<j):=fun k hk h=>kZ hlt hk h
   have HIN:Hid ((∀k (hk:k<j),isSg x.methods[j].name (x.methods[k]'(by omega))=false)→¬idxI (isSg x.methods[j].name) x.methods<j):=fun h=>acw hlt h (by unfold isSg;exact zO.2 rfl)
   clear HC0
   go_wp2_with fail
   refine(jV x.methods[j].name _ (jJ hoj.1)).mono ?_;rintro e w2 ⟨rfl,hb2⟩;have hbw2:=za hbw hb2
   cases q1:zC x.methods[j].name with
   |false=>
    have HB:Hid (r=5):=HHIT.out 5 (by rw[HFE.out];rw[q1];rfl) (by decide)
    go_wp2_with fail
    go_ret
    exact⟨by rw[HB.out];rfl,hbw2⟩
   |true=>
   have HFE2:Hid (mthF cs x T j=if idxI (isSg x.methods[j].name) x.methods<j then 7 else if 6<x.methods[j].params.length then 3 else if tysE cs x.methods[j]≠0 then tysE cs x.methods[j] else if yq cs T x.methods[j] then 11 else 0):=by show _=_;rw[HFE.out,q1];rfl
   clear HFE q1 f0 f1 f2 f3 hcP hsP hbF;have bh2:=(bh.mono hbr).mono hb2;have hbr2:=za hbr hb2
   go_wp2_with fail
   go_loopw [7] (fun v wz=>∃k:Nat,k≤j∧v = .int .i64 k∧Hid (∀i (hi:i<k) (h:i<x.methods.length),isSg x.methods[j].name x.methods[i]=false)∧Below w2.heap.size w2 wz) (fun v _=>j-(intOf v).toNat)
   case atStart=>exact⟨0,Nat.zero_le _,rfl,fun i hi=>by omega,v9r⟩
   case round=>
    obtain⟨k,hk,rfl,HK,hbz⟩:=hrel;have hbwz:=za hbw2 hbz;have hbrz:=za hbr2 hbz;obtain⟨hbF,HC0⟩:=HFC.out _ hbwz;obtain⟨AP,cP,f0,f1,f2,f3,hcP,hsP⟩:=HC0 j hlt
    by_cases hkj:k<j
    ·have hkl:k<x.methods.length:=by omega
     obtain⟨AP',cP',g0,g1,g2,g3,hcP',hsP'⟩:=HC0 k hkl;clear HC0
     cases q3:isSg x.methods[j].name x.methods[k] with
     |true=>
      have HB:Hid (r=7):=HHIT.out 7 (by rw[HFE2.out,if_pos (HIX.out k hkj q3)]) (by decide);unfold isSg at q3
      go_upto_region 10 with fail
      refine zm (by kernel_rfl) (by kernel_rfl) ?_
      repeat(go_big_quiet_step (fail))
      refine wpQuiet_nil ?_;rintro _ ⟨y,rfl⟩
      go_wp2_with fail
      go_ret
      exact⟨by rw[HB.out];rfl,za hbwz y.h⟩
     |false=>
      have HK2:Hid (∀i (hi:i<k+1) (h:i<x.methods.length),isSg x.methods[j].name x.methods[i]=false):=fun i hi h=>by
       by_cases e:i=k
       ·subst e;exact q3
       ·exact HK.out i (by omega) h
      unfold isSg at q3
      go_upto_region 10 with fail
      refine zm (by kernel_rfl) (by kernel_rfl) ?_
      repeat(go_big_quiet_step (fail))
      refine wpQuiet_nil ?_;rintro _ ⟨y,rfl⟩
      go_wp2_with fail
      go_roundw
      case rel=>exact⟨k+1,by omega,by go_num,HK2,za hbz y.h⟩
      case measure=>simp[intOf];omega
    ·clear HC0
     have HFE3:Hid (mthF cs x T j=if 6<x.methods[j].params.length then 3 else if tysE cs x.methods[j]≠0 then tysE cs x.methods[j] else if yq cs T x.methods[j] then 11 else 0):=by
      show _=_;rw[HFE2.out,if_neg (by have:=HIN.out (fun i hi=>HK.out i (by omega) (by omega));omega)]
     clear HFE2 HK
     by_cases h6:6<x.methods[j].params.length
     ·have HB:Hid (r=3):=HHIT.out 3 (by rw[HFE3.out,if_pos h6]) (by decide)
      go_wp2_with fail
      go_ret
      exact⟨by rw[HB.out];rfl,hbwz⟩
     have HFE4:Hid (mthF cs x T j=if tysE cs x.methods[j]≠0 then tysE cs x.methods[j] else if yq cs T x.methods[j] then 11 else 0):=by show _=_;rw[HFE3.out,if_neg h6]
     clear HFE3;have bhz:=bh2.mono hbz;have h0:=bhz.cell 0 rfl;have hlh:=bhz.lt;have HC1:Hid (∀y:zk wr,Calls Tryz.prog 329 #[.agg #[.slice (some ⟨b0,o,none⟩) cs.length c],.agg #[.string x.methods[j].name,.bool x.methods[j].static,.slice AP x.methods[j].params.length cP,.string x.methods[j].result]] y.W fun e w'=>e = .returned (.int .i64 (tysE cs x.methods[j]))∧Below y.W.heap.size y.W w'):=fun y=>afQ _ c cs _ AP cP y.W hl (hsl.mono (za hbwz y.h)) hpj (hsP.mono y.h)
     obtain⟨te,HTE⟩:∃te,Hid (te=tysE cs x.methods[j]):=⟨_,v9h rfl⟩
     rw[←HTE.out] at HC1 HFE4
     go_upto_region 14 with fail
     refine zm (by kernel_rfl) (by kernel_rfl) ?_
     repeat(go_big_quiet_step ((go_at_call 329;with_reducible exact Calls.later (HC1.out _))))
     refine wpQuiet_nil ?_;rintro _ ⟨y,rfl⟩;have hbw5:=za hbwz y.h;have hbr5:=za hbrz y.h;have bh5:=bhz.mono y.h;obtain⟨W5,hW5⟩:∃W5,W5=y.W:=⟨_,rfl⟩
     rw[←hW5] at hbw5 hbr5 bh5 ⊢;clear hW5 HC1 h0 hlh f0 f1 f2 f3 hbF hsP hcP
     by_cases hte:te=0
     ·have HFE5:Hid (mthF cs x T j=if yq cs T x.methods[j] then 11 else 0):=by show _=_;rw[HFE4.out,if_neg (by rw[hte];simp)]
      have t1:(te != 0)=false:=by rw[hte];rfl
      clear HFE4 HTE;have h0:=bh5.cell 0 rfl;have hlh:=bh5.lt;obtain⟨e0,d0,d1,d2,d3⟩:=HD.out _ hbw5;obtain⟨hbF,HC0⟩:=HFC.out _ hbw5;obtain⟨AP,cP,f0,f1,f2,f3,hcP,hsP⟩:=HC0 j hlt;clear HC0;have HC1:Hid (∀y:zk W5,Calls Tryz.prog 330 #[.agg #[.slice (some ⟨b0,o,none⟩) cs.length c],.string x.name,.agg #[.string x.methods[j].name,.bool x.methods[j].static,.slice AP x.methods[j].params.length cP,.string x.methods[j].result]] y.W fun e w'=>e = .returned (.bool (yq cs T x.methods[j]))∧Below y.W.heap.size y.W w'):=fun y=>HOV.out x.methods[j] AP cP y.W (za hbw5 y.h) hpj (hsP.mono y.h)
      generalize yq cs T x.methods[j]=cb at *
      go_upto_region 17 with fail
      refine zm (by kernel_rfl) (by kernel_rfl) ?_
      repeat(go_big_quiet_step ((go_at_call 330;with_reducible exact Calls.later (HC1.out _))))
      refine wpQuiet_nil ?_;rintro _ ⟨y,rfl⟩
      cases cb with
      |true=>
       have HB:Hid (r=11):=HHIT.out 11 (by rw[HFE5.out];rfl) (by decide)
       go_wp2_with fail
       go_ret
       exact⟨by rw[HB.out];rfl,za hbw5 y.h⟩
      |false=>
       have HN:=v9h (yz HZ.out (show mthF cs x T j=0 by rw[HFE5.out];rfl))
       go_wp2_with fail
       go_roundw
       case rel=>exact⟨j+1,by omega,by go_num,HN,za hbr5 y.h⟩
       case measure=>simp[intOf];omega
     ·have HB:Hid (r=te):=HHIT.out te (by rw[HFE4.out,if_pos hte]) hte
      have t1:(te != 0)=true:=by simpa using hte
      clear HFE4 HTE
      go_wp2_with fail
      go_ret
      exact⟨by rw[HB.out];rfl,hbw5⟩
  ·have HB:Hid (r=0):=by
    have he:j=x.methods.length:=by omega
    show r=0;rw[HR.out,←he];exact HZ.out
   go_wp2_with fail
   go_ret
   exact⟨by rw[HB.out];rfl,hbw⟩
def xN(cs:List Cls)(i:Nat)(c:Cls):Int:=if(chR cs i).2 then 10 else if 16<c.fields.length∨16<c.methods.length then 3 else if frst (fldF cs c (chR cs i).1.tail) c.fields.length≠0 then frst (fldF cs c (chR cs i).1.tail) c.fields.length else frst (mthF cs c (chR cs i).1.tail) c.methods.length
theorem aht(cs:List Cls)(i:Nat)(c:Cls):clsE cs i c=if !zC c.name then 5 else if fnd cs c.name≠i then 7 else if c.super.toList.isEmpty=false∧fnd cs c.super<0 then 6 else xN cs i c:=rfl
theorem afT(A:Option Addr)(c:Nat)(cs:List Cls)(i:Nat)(w:World)(hl:cs.length≤8796093022208)(hsl:Sl Lay.cls w A cs)(hlk:Hid (yp cs))(hok:Hid (yQ cs))(hi:i<cs.length) :
  Calls Tryz.prog 264 #[.agg #[.slice A cs.length c],.int .i64 i] w fun e w'=>e = .returned (.int .i64 (clsE cs i cs[i]))∧Below w.heap.size w w':=by
 obtain⟨r,HR⟩:∃r,Hid (r=clsE cs i cs[i]):=⟨_,v9h rfl⟩
 rw[←HR.out];have HR1:Hid (r=if !zC cs[i].name then 5 else if fnd cs cs[i].name≠i then 7 else if cs[i].super.toList.isEmpty=false∧fnd cs cs[i].super<0 then 6 else xN cs i cs[i]):=by show r=_;rw[HR.out,aht]
 clear HR;have hoi:=(hok.out _ (List.getElem_mem hi)).1;have hli:=hlk.out _ (List.getElem_mem hi);have hfl:=hli.1;have hml:=hli.2.1;clear hli;have HFL:=v9h (fun h (W:World) (hb:Below w.heap.size w W)=>aeL A c cs i W hl (hsl.mono hb) hlk hok hi h);have HML:=v9h (fun h (W:World) (hb:Below w.heap.size w W)=>afS A c cs i W hl (hsl.mono hb) hlk hok hi h);have HCH:=v9h (fun(W:World) (hb:Below w.heap.size w W)=>abF A c cs cs[i].name W hl (hsl.mono hb));have HF1:=v9h (fun(W:World) (hb:Below w.heap.size w W)=>qK A c cs cs[i].name W hl (hsl.mono hb));have HF2:=v9h (fun(W:World) (hb:Below w.heap.size w W)=>qK A c cs cs[i].super W hl (hsl.mono hb));obtain⟨b0,o,A2,c2,A3,c3,rfl,hc2,hc3,hs2,hs3,HD⟩:=hsl.clsC hi;replace HD:=v9h HD;have hiI:(i:Int)<cs.length:=by omega
 generalize cs[i]=x at *
 go_enter Tryz.func264,Tryz.ntmps264
 go_upto_region 1 with fail
 generalize hW:World.alloc _ _=W1 at *
 have hb1:Below w.heap.size w W1:=by rw[←hW];exact(by repeat(first|assumption|exact v9r|apply zc|apply zd|apply zg|apply ze|apply zi))
 have bh:Box W1 w.heap.size [.slice (some ⟨b0,o,none⟩) cs.length c] 29:=by rw[←hW];exact(by repeat(first|(refine Box.at ?_;(simp;done))|apply Box.drew|apply Box.alloc|assumption))
 have hz1:W1.heap.size=w.heap.size+1:=by rw[←hW];simp
 clear hW;have h0:=bh.cell 0 rfl;have hlh:=bh.lt;obtain⟨e0,d0,d1,d2,d3⟩:=HD.out _ hb1
 go_upto_region 2 with fail
 generalize hW:World.alloc _ _=W2 at *
 have hb2:Below w.heap.size w W2:=by rw[←hW];exact zc hb1
 have bh2:Box W2 w.heap.size [.slice (some ⟨b0,o,none⟩) cs.length c] 29:=by rw[←hW];exact bh.alloc _
 have bc2:Box W2 (w.heap.size+1) [.string x.name,.string x.super,.slice A2 x.fields.length c2,.slice A3 x.methods.length c3] 94:=by rw[←hW];exact Box.at hz1
 clear hW h0 hlh e0 d0 d1 d2 d3 bh;have c0:=bc2.cell 0 rfl;have cl:=bc2.lt
 go_wp2_with fail
 refine(jV x.name _ (jJ hoi.1)).mono ?_;rintro e w3 ⟨rfl,hb3⟩;have hbw3:=za hb2 hb3;have bh3:=bh2.mono hb3;have bc3:=bc2.mono hb3;clear c0 cl bh2 bc2
 cases q1:zC x.name with
 |false=>
  have HB:Hid (r=5):=by show r=5;rw[HR1.out,q1];rfl
  go_wp2_with fail
  go_ret
  exact⟨by rw[HB.out];rfl,hbw3⟩
 |true=>
 have HR2:Hid (r=if fnd cs x.name≠i then 7 else if x.super.toList.isEmpty=false∧fnd cs x.super<0 then 6 else xN cs i x):=by show r=_;rw[HR1.out,q1];rfl
 clear HR1 q1;have h0:=bh3.cell 0 rfl;have hlh:=bh3.lt;have c0:=bc3.cell 0 rfl;have cl:=bc3.lt
 go_wp2_with fail
 refine(HF1.out _ hbw3).mono ?_;rintro e w4 ⟨rfl,hb4⟩;have hbw4:=za hbw3 hb4;have bh4:=bh3.mono hb4;have bc4:=bc3.mono hb4;clear h0 hlh c0 cl bh3 bc3 HF1
 by_cases hf:fnd cs x.name≠i
 ·have HB:Hid (r=7):=by show r=7;rw[HR2.out,if_pos hf]
  have t1:(fnd cs x.name != (i:Int))=true:=by simpa using hf
  clear hf
  go_wp2_with fail
  go_ret
  exact⟨by rw[HB.out];rfl,hbw4⟩
 replace hf:fnd cs x.name=i:=Classical.not_not.1 hf;have HR3:Hid (r=if x.super.toList.isEmpty=false∧fnd cs x.super<0 then 6 else xN cs i x):=by show r=_;rw[HR2.out,if_neg (by simpa using hf)]
 have t1:(fnd cs x.name != (i:Int))=false:=by rw[hf];simp
 have HFI:=v9h hf;rw[hf] at t1 HCH ⊢;replace HML:=v9h (HML.out hf);clear HR2 hf
 go_upto_region 6 with fail
 have h0:=bh4.cell 0 rfl;have hlh:=bh4.lt;have c1:=bc4.cell 1 rfl;have cl:=bc4.lt
 go_cut [33] (fun s wx=>s = .bool (decide (x.super.toList.isEmpty=false∧fnd cs x.super<0))∧Below w4.heap.size w4 wx)
 case first=>
  rcases xm x.super with⟨e1,e2,e3⟩|⟨e1,e2,e3⟩
  ·have HB:Hid (decide (x.super.toList.isEmpty=false∧fnd cs x.super<0)=false):=decide_eq_false (fun h=>by rw[e1] at h;cases h.1)
   go_wp2_with fail
   go_meet
   exact⟨by rw[HB.out],v9r⟩
  ·have HB:Hid (decide (x.super.toList.isEmpty=false∧fnd cs x.super<0)=decide (fnd cs x.super<0)):=by
    show _=_
    by_cases h:fnd cs x.super<0
    ·rw[decide_eq_true h,decide_eq_true ⟨e1,h⟩]
    ·rw[decide_eq_false h,decide_eq_false (fun hh=>h hh.2)]
   go_wp2_with fail
   refine(HF2.out _ hbw4).mono ?_;rintro e w5 ⟨rfl,hb5⟩
   go_wp2_with fail
   go_meet
   exact⟨by rw[HB.out],hb5⟩
 case rest=>
 obtain⟨rfl,hb5⟩:=hcut;have hbw5:=za hbw4 hb5;have bh5:=bh4.mono hb5;have bc5:=bc4.mono hb5;clear h0 hlh c1 cl bh4 bc4 HF2
 by_cases hu:x.super.toList.isEmpty=false∧fnd cs x.super<0
 ·have HB:Hid (r=6):=by show r=6;rw[HR3.out,if_pos hu]
  have t2:=decide_eq_true hu;clear hu;rw[t2]
  go_wp2_with fail
  go_ret
  exact⟨by rw[HB.out];rfl,hbw5⟩
 have HR4:Hid (r=xN cs i x):=by show r=_;rw[HR3.out,if_neg hu]
 have t2:=decide_eq_false hu;clear HR3 hu;rw[t2];have h0:=bh5.cell 0 rfl;have hlh:=bh5.lt;have c0:=bc5.cell 0 rfl;have cl:=bc5.lt
 go_wp2_with fail
 refine(HCH.out _ hbw5).mono ?_;rintro e w6 ⟨⟨v6,rfl,_⟩,hb6⟩;have hbw6:=za hbw5 hb6;have bh6:=bh5.mono hb6;have bc6:=bc5.mono hb6;clear h0 hlh c0 cl bh5 bc5
 cases q3:(chR cs i).2 with
 |true=>
  have HB:Hid (r=10):=by show r=10;rw[HR4.out];unfold xN;rw[q3];rfl
  go_wp2_with fail
  go_ret
  exact⟨by rw[HB.out];rfl,hbw6⟩
 |false=>
 have HR5:Hid (r=if 16<x.fields.length∨16<x.methods.length then 3 else if frst (fldF cs x (chR cs i).1.tail) x.fields.length≠0 then frst (fldF cs x (chR cs i).1.tail) x.fields.length else frst (mthF cs x (chR cs i).1.tail) x.methods.length):=by show r=_;rw[HR4.out];unfold xN;rw[q3];rfl
 replace HFL:=v9h (HFL.out q3);clear HR4 q3;have c2':=bc6.cell 2 rfl;have c3':=bc6.cell 3 rfl;have cl:=bc6.lt
 by_cases h16:16<x.fields.length
 ·have HB:Hid (r=3):=by show r=3;rw[HR5.out,if_pos (Or.inl h16)]
  go_wp2_with fail
  go_ret
  exact⟨by rw[HB.out];rfl,hbw6⟩
 by_cases h16':16<x.methods.length
 ·have HB:Hid (r=3):=by show r=3;rw[HR5.out,if_pos (Or.inr h16')]
  go_wp2_with fail
  go_ret
  exact⟨by rw[HB.out];rfl,hbw6⟩
 have HR6:Hid (r=if frst (fldF cs x (chR cs i).1.tail) x.fields.length≠0 then frst (fldF cs x (chR cs i).1.tail) x.fields.length else frst (mthF cs x (chR cs i).1.tail) x.methods.length):=by show r=_;rw[HR5.out,if_neg (by omega)]
 clear HR5;have h0:=bh6.cell 0 rfl;have hlh:=bh6.lt;generalize frst (fldF cs x (chR cs i).1.tail) x.fields.length=fe at *
 generalize frst (mthF cs x (chR cs i).1.tail) x.methods.length=me at *
 go_wp2_with fail
 refine(HFL.out _ hbw6).mono ?_;rintro e w7 ⟨rfl,hb7⟩;have hbw7:=za hbw6 hb7;have bh7:=bh6.mono hb7;clear h0 hlh c2' c3' cl bh6 bc6
 by_cases hfe:fe=0
 ·have HB:Hid (r=me):=by show r=me;rw[HR6.out,if_neg (by rw[hfe];simp)]
  have t3:(fe != 0)=false:=by rw[hfe];rfl
  clear hfe;have h0:=bh7.cell 0 rfl;have hlh:=bh7.lt
  go_wp2_with fail
  refine(HML.out _ hbw7).mono ?_;rintro e w8 ⟨rfl,hb8⟩
  go_wp2_with fail
  go_ret
  exact⟨by rw[HB.out];rfl,za hbw7 hb8⟩
 ·have HB:Hid (r=fe):=by show r=fe;rw[HR6.out,if_pos hfe]
  have t3:(fe != 0)=true:=by simpa using hfe
  clear hfe
  go_wp2_with fail
  go_ret
  exact⟨by rw[HB.out];rfl,hbw7⟩
theorem ad1(A:Option Addr)(c:Nat)(cs:List Cls)(w:World)(hl:cs.length≤8796093022208)(hsl:Sl Lay.cls w A cs)(hlk:Hid (yp cs))(hok:Hid (yQ cs)) :
  Calls Tryz.prog 197 #[.agg #[.slice A cs.length c]] w fun e w'=>e = .returned (.tuple #[.int .i64 (yn cs).1,.int .i64 (yn cs).2])∧Below w.heap.size w w':=by
 obtain⟨r,HR⟩:∃r,Hid (r=yn cs):=⟨_,v9h rfl⟩
 rw[←HR.out]
 go_enter Tryz.func197,Tryz.ntmps197
 go_upto_region 1 with fail
 generalize hW:World.alloc _ _=W1 at *
 have hb1:Below w.heap.size w W1:=by rw[←hW];exact(by repeat(first|assumption|exact v9r|apply zc|apply zd|apply zg|apply ze|apply zi))
 have bh:Box W1 w.heap.size [.slice A cs.length c] 29:=by rw[←hW];exact(by repeat(first|(refine Box.at ?_;(simp;done))|apply Box.drew|apply Box.alloc|assumption))
 clear hW;have h0:=bh.cell 0 rfl;have hlh:=bh.lt
 by_cases h64:64<cs.length
 ·have HB:Hid (r=(-1,3)):=by show r=_;rw[HR.out];unfold yn;rw[if_pos h64]
  go_wp2_with fail
  go_ret2
  exact⟨by rw[HB.out];rfl,hb1⟩
 go_wp2_with fail
 clear h0 hlh
 go_loopw [4] (fun v wr=>∃j:Nat,j≤cs.length∧v = .int .i64 j∧Hid (frst (clsF cs) j=0)∧Below W1.heap.size W1 wr) (fun v _=>cs.length-(intOf v).toNat)
 case atStart=>exact⟨0,Nat.zero_le _,rfl,v9h rfl,v9r⟩
 case round=>
  obtain⟨j,hj,rfl,HZ,hbr⟩:=hrel;have hbw:=za hb1 hbr;have bhr:=bh.mono hbr;have h0:=bhr.cell 0 rfl;have hlh:=bhr.lt
  by_cases hlt:j<cs.length
  ·have HC:=v9h (afT A c cs j wr hl (hsl.mono hbw) hlk hok hlt)
   have HF:Hid (clsF cs j=clsE cs j cs[j]):=xt hlt;rw[←HF.out] at HC;have HHIT:=v9h (fun h=>acv h64 HZ.out (k:=j) h hlt);generalize hce:clsF cs j=ce at *
   have HCE:=v9h hce;clear hce HF
   go_wp2_with fail
   refine HC.out.mono ?_;rintro e w2 ⟨rfl,hb2⟩
   by_cases h:ce=0
   ·have HN:=v9h (yz HZ.out (show clsF cs j=0 by rw[HCE.out,h]))
    have t1:(ce != 0)=false:=by rw[h];rfl
    clear h
    go_wp2_with fail
    go_roundw
    case rel=>exact⟨j+1,by omega,by go_num,HN,za hbr hb2⟩
    case measure=>simp[intOf];omega
   ·have HB:Hid (r=((j:Int),ce)):=by show r=_;rw[HR.out,HHIT.out h]
    have t1:(ce != 0)=true:=by simpa using h
    clear h
    go_wp2_with fail
    go_ret2
    exact⟨by rw[HB.out];rfl,za hbw hb2⟩
  ·have HB:Hid (r=(0,0)):=by
    show r=_;have he:j=cs.length:=by omega
    rw[HR.out];exact adz h64 (by rw[←he];exact HZ.out)
   go_wp2_with fail
   go_ret2
   exact⟨by rw[HB.out];rfl,hbw⟩
end Go.Proofs.YtmhdambkchlilaaGreatDoor
