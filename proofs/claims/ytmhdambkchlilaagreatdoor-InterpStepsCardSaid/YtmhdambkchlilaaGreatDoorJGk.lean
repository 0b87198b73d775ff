/- Chapter 10: the reference's chains and look-ups in any hierarchy. Chapter 10: the reference's look-up of a method in any hierarchy. Chapter 10: the answer's Type, IsSub, up, in any hierarchy. Chapter 10: the answer's look-up of a method in any hierarchy; the row of its parameters lies where the hierarchy lay. -/
import Derived.Test.YtmhdambkchlilaaGreatDoorJGh
import Derived.Test.YtmhdambkchlilaaGreatDoorJGa
import Derived.Test.YtmhdambkchlilaaGreatDoorJGc
namespace Go.Proofs.YtmhdambkchlilaaGreatDoor
open Go.RowKit
set_option linter.unusedVariables false
set_option maxRecDepth 100000
set_option maxHeartbeats 2000000
theorem ahk{l:List ByteArray}{s:ByteArray}{k:Nat}(hk:k<l.length)(h:(l[k].toList==s.toList)=true):hasS l s=true:=by
 rw[xE,←zO.1 h];exact List.getElem_mem hk
theorem afH{l:List ByteArray}{s:ByteArray}(h:∀i (hi:i<l.length),(l[i].toList==s.toList)=false):hasS l s=false:=by
 cases hq:hasS l s with
 |false=>rfl
 |true=>
  rw[xE] at hq;obtain⟨i,hi,rfl⟩:=List.getElem_of_mem hq;exact absurd (h i hi) (by rw[zO.2 rfl];simp)
theorem xv{cs:List Cls}{s:ByteArray}(h:0≤fnd cs s):nmAt cs (fnd cs s)=s:=by
 unfold fnd idxI at *
 cases hq:cs.findIdx? (yP s) with
 |none=>rw[hq] at h;simp at h
 |some i=>
  obtain⟨hi,h1,_⟩:=List.findIdx?_eq_some_iff_getElem.1 hq;simp only;rw[qh hi];exact zO.1 h1
theorem qK(A:Option Addr)(c:Nat)(cs:List Cls)(s:ByteArray)(w:World)(hl:cs.length≤8796093022208)(hsl:Sl Lay.cls w A cs) :
  Calls Tryz.prog 42 #[.agg #[.slice A cs.length c],.string s] w fun e w'=>e = .returned (.int .i64 (fnd cs s))∧Below w.heap.size w w':=by
 have hb0:Below w.heap.size w (w.alloc (.cells #[.slice A cs.length c] 29)):=(by repeat(first|assumption|exact v9r|apply zc|apply zd|apply zg|apply ze|apply zi))
 have bx:=Box.new w [.slice A cs.length c] 29;have x0:=bx.cell 0 rfl;have xl:=bx.lt;have hsl1:=hsl.mono hb0
 go_enter Tryz.func42,Tryz.ntmps42
 go_wp2_with fail
 generalize(w.alloc (.cells #[.slice A cs.length c] 29))=W at *
 go_loop [5] (fun i=>∃k:Nat,k≤cs.length∧i = .int .i64 k∧Hid (∀i (hi:i<k) (hi2:i<cs.length),yP s cs[i]=false)) (fun i=>cs.length-(intOf i).toNat)
 case atStart=>exact⟨0,Nat.zero_le _,rfl,fun i hi=>by omega⟩
 case round=>
  obtain⟨k,hk,rfl,HN⟩:=hrel
  by_cases hlt:k<cs.length
  ·obtain⟨b0,o,A2,c2,A3,c3,rfl,hb,d0,d1,d2,d3,hc2,hs2,hc3,hs3⟩:=hsl1.cls_at hlt
   cases hq:yP s cs[k] with
   |true=>
    have HE:Hid (fnd cs s=k):=qY hlt (fun i hi=>HN.out i hi (by omega)) hq;unfold yP at hq
    go_wp2_with fail
    go_ret
    exact⟨by rw[HE.out];rfl,hb0⟩
   |false=>
    have HE:Hid (∀i (hi:i<k+1) (hi2:i<cs.length),yP s cs[i]=false):=fun i hi hi2=>by
     by_cases e:i=k
     ·subst e;exact hq
     ·exact HN.out i (by omega) hi2
    unfold yP at hq
    go_wp2_with fail
    go_round
    case rel=>exact⟨k+1,by omega,by go_num,HE⟩
    case measure=>simp[intOf];omega
  ·have HE:Hid (fnd cs s = -1):=qC (fun i hi=>HN.out i (by omega) hi)
   go_wp2_with fail
   go_ret
   exact⟨by rw[HE.out];rfl,hb0⟩
theorem ab4(A:Option Addr)(c:Nat)(l:List ByteArray)(s:ByteArray)(w:World)(hl:l.length≤8796093022208)(hs:Sl Lay.str w A l) :
  Calls Tryz.prog 48 #[.slice A l.length c,.string s] w fun e w'=>e = .returned (.bool (hasS l s))∧w=w':=by
 go_enter Tryz.func48,Tryz.ntmps48
 go_wp2_with fail
 go_loop [5] (fun i=>∃k:Nat,k≤l.length∧i = .int .i64 k∧Hid (∀i (hi:i<k) (hi2:i<l.length),(l[i].toList==s.toList)=false)) (fun i=>l.length-(intOf i).toNat)
 case atStart=>exact⟨0,Nat.zero_le _,rfl,fun i hi=>by omega⟩
 case round=>
  obtain⟨k,hk,rfl,HN⟩:=hrel
  by_cases hlt:k<l.length
  ·obtain⟨b,o,rfl,hb,d0⟩:=hs.str_at hlt
   cases hq:(l[k].toList==s.toList) with
   |true=>
    have HE:=v9h (ahk hlt hq)
    go_wp2_with fail
    go_ret
    exact⟨by rw[HE.out];rfl,rfl⟩
   |false=>
    have HE:Hid (∀i (hi:i<k+1) (hi2:i<l.length),(l[i].toList==s.toList)=false):=fun i hi hi2=>by
     by_cases e:i=k
     ·subst e;exact hq
     ·exact HN.out i (by omega) hi2
    go_wp2_with fail
    go_round
    case rel=>exact⟨k+1,by omega,by go_num,HE⟩
    case measure=>simp[intOf];omega
  ·have HE:=v9h (afH (l:=l) (s:=s) (fun i hi=>HN.out i (by omega) hi))
   go_wp2_with fail
   go_ret
   exact⟨by rw[HE.out];rfl,rfl⟩
structure ChS(cs:List Cls)(s t:ByteArray)(P:List Int):Prop where
 all:chR cs (fnd cs s)=chGo (supI cs) (cs.length-P.length) (fnd cs t) P
 fix:∀j∈P,fnd cs (nmAt cs j)=j
 bd:∀j∈P,0≤j∧j<(cs.length:Int)
 nd:P.Nodup
theorem ChS.start(cs:List Cls)(s:ByteArray):ChS cs s s []:=⟨by simp[chR],by simp,by simp,by simp⟩
theorem ChS.mem{cs:List Cls}{s t:ByteArray}{P:List Int}(h:ChS cs s t P)(h0:0≤fnd cs t):hasS (P.map (nmAt cs)) t=true↔fnd cs t∈P:=by
 rw[xE,List.mem_map]
 constructor
 ·rintro⟨x,hx,rfl⟩
  rw[h.fix x hx];exact hx
 ·intro hm
  exact⟨_,hm,xv h0⟩
theorem ChS.stop{cs:List Cls}{s t:ByteArray}{P:List Int}(h:ChS cs s t P)(hn:¬(0≤fnd cs t∧fnd cs t∉P)):P.map (nmAt cs)=zx cs s∧(chR cs (fnd cs s)).2=decide (0≤fnd cs t):=by
 unfold zx;rw[h.all,yF hn];exact⟨rfl,rfl⟩
structure ChX(cs:List Cls)(s t:ByteArray)(P:List Int)(n:Nat)(hn:n<cs.length):Prop where
 len:P.length<cs.length
 map:(P++[(n:Int)]).map (nmAt cs)=P.map (nmAt cs)++[t]
 last:cs[n].super.toList.isEmpty=true→P.map (nmAt cs)++[t]=zx cs s∧(chR cs (fnd cs s)).2=false
 more:cs[n].super.toList.isEmpty=false→ChS cs s cs[n].super (P++[(n:Int)])
theorem ChS.next{cs:List Cls}{s t:ByteArray}{P:List Int}(h:ChS cs s t P){n:Nat}(hn:n<cs.length)(he:fnd cs t=n)(hm:(n:Int)∉P):ChX cs s t P n hn:=by
 have hname:nmAt cs (n:Int)=t:=by
  have:=xv (cs:=cs) (s:=t) (by omega);rw[he] at this;exact this
 have hbd:∀j∈P++[(n:Int)],0≤j∧j<(cs.length:Int):=fun j hj=>by
  rcases List.mem_append.1 hj with hj|hj
  ·exact h.bd j hj
  ·simp at hj;subst hj;omega
 have hnd:(P++[(n:Int)]).Nodup:=by
  rw[List.nodup_append];refine⟨h.nd,by simp,fun a ha b hb=>?_⟩
  simp at hb;subst hb
  intro e;subst e;exact hm ha
 have hlen:=xD hnd hbd;rw[List.length_append,List.length_cons,List.length_nil] at hlen;have hmap:(P++[(n:Int)]).map (nmAt cs)=P.map (nmAt cs)++[t]:=by rw[List.map_append,List.map_cons,hname];rfl
 have hall:chR cs (fnd cs s)=chGo (supI cs) (cs.length-(P++[(n:Int)]).length) (supI cs n) (P++[(n:Int)]):=by
  rw[h.all,he,List.length_append,List.length_cons,List.length_nil];obtain⟨f,hf⟩:∃f,cs.length-P.length=f+1:=⟨cs.length-P.length-1,by omega⟩
  rw[hf,qe ⟨by omega,hm⟩,Int.toNat_natCast,show cs.length-(P.length+(0+1))=f by omega]
 refine⟨by omega,hmap,fun hq=>?_,fun hq=>?_⟩
 ·rw[aaA hn,if_pos hq,yF (by omega)] at hall
  unfold zx;rw[hall,←hmap];exact⟨rfl,rfl⟩
 ·rw[aaA hn,if_neg (by rw[hq];simp)] at hall
  refine⟨hall,fun j hj=>?_,hbd,hnd⟩
  rcases List.mem_append.1 hj with hj|hj
  ·exact h.fix j hj
  ·simp at hj;subst hj;rw[hname];exact he
theorem abF(A:Option Addr)(c:Nat)(cs:List Cls)(s:ByteArray)(w:World)(hl:cs.length≤8796093022208)(hsl:Sl Lay.cls w A cs) :
  Calls Tryz.prog 83 #[.agg #[.slice A cs.length c],.string s] w fun e w'=>(∃v,e = .returned (.tuple #[v,.bool (chR cs (fnd cs s)).2])∧Own yd 1 w.heap.size 9 w' v (zx cs s))∧Below w.heap.size w w':=by
 have hb0:Below w.heap.size w (w.alloc (.cells #[.slice A cs.length c] 29)):=(by repeat(first|assumption|exact v9r|apply zc|apply zd|apply zg|apply ze|apply zi))
 have bx:=Box.new w [.slice A cs.length c] 29;have HST:=v9h (ChS.start cs s);obtain⟨cy,HCY⟩:∃cy,Hid (cy=(chR cs (fnd cs s)).2):=⟨_,v9h rfl⟩
 rw[←HCY.out]
 go_enter Tryz.func83,Tryz.ntmps83
 go_wp2_with fail
 refine(qK A c cs s _ hl (hsl.mono hb0)).mono ?_;rintro e w1 ⟨rfl,hb1⟩;have hbw1:=za hb0 hb1;have bx1:=bx.mono hb1;clear hb0 hb1 bx
 go_wp2_with fail
 go_loopw [1,6,7] (fun v1 v6 v7 wr=>∃(t:ByteArray) (P:List Int),v1 = .string t∧v7 = .int .i64 (fnd cs t)∧Hid (ChS cs s t P)∧P.length≤cs.length∧Own yd 1 (w.heap.size+1) 9 wr v6 (P.map (nmAt cs))∧Box wr w.heap.size [.slice A cs.length c] 29∧Below w.heap.size w wr) (fun v1 v6 v7 _=>cs.length-slLen v6)
 case atStart=>exact⟨s,[],rfl,rfl,HST,Nat.zero_le _,Own.nil,bx1,hbw1⟩
 case round=>
  clear HST bx1 hbw1;obtain⟨t,P,rfl,rfl,HS,hPl,hown,bx,hbw⟩:=hrel;have hfb:=yb cs t;have x0:=bx.cell 0 rfl;have xl:=bx.lt
  by_cases h0:0≤fnd cs t
  ·obtain⟨n,hn⟩:∃n:Nat,fnd cs t=n:=⟨(fnd cs t).toNat,by omega⟩
   have hnl:n<cs.length:=by omega
   have HMEM:=v9h (HS.out.mem h0);have hpm0:(P.map (nmAt cs)).length≤cs.length:=by rw[List.length_map];exact hPl
   cases hin:hasS (P.map (nmAt cs)) t with
   |true=>
    have HE:=v9h (HS.out.stop (fun h=>h.2 (HMEM.out.1 hin)));have HB:Hid (cy=true):=by show _=_;rw[HCY.out,HE.out.2,decide_eq_true h0]
    rw[hn] at h0 hfb ⊢;have HIN:=v9h hin;clear hn hin;generalize P.map (nmAt cs)=N at *
    obtain⟨A6,c6,rfl,hc6,hs6⟩:=qN.of_own hown
    go_wp2_with fail
    refine(ab4 A6 c6 N t _ (by omega) hs6).mono ?_;rintro e w2 ⟨rfl,rfl⟩;rw[HIN.out]
    go_wp2_with fail
    go_ret2
    exact⟨⟨_,by rw[HB.out];rfl,by rw[←HE.out.1];exact hown.weaken (by omega)⟩,hbw⟩
   |false=>
    have HN:=v9h (HS.out.next hnl hn (fun h=>by rw[←hn] at h;rw[HMEM.out.2 h] at hin;cases hin));rw[hn] at h0 hfb ⊢;have HNEW:=v9h hin;clear hn hin HMEM;have hlen:=HN.out.len;have hpm:(P.map (nmAt cs)).length<cs.length:=by rw[List.length_map];exact hlen
    have HMAP:=v9h HN.out.map;have HLAST:=v9h HN.out.last;have HMORE:=v9h HN.out.more;clear HN HS;generalize P.map (nmAt cs)=N at *
    have HSL:=v9h hown.slLen;obtain⟨A6,c6,rfl,hc6,hs6⟩:=qN.of_own hown
    go_wp2_with fail
    refine(ab4 A6 c6 N t _ (by omega) hs6).mono ?_;rintro e w2 ⟨rfl,rfl⟩;rw[HNEW.out]
    go_wp2_with (at_builtin;refine zF ks yA rfl (.tmp 20) (.tmp 22) rfl (w.heap.size+1) _ _ rfl (Own.alloc hown _) t _ _ rfl (zY _ _ _) (by unfold maxLen;omega) (by omega) ?_ ?_;(simp;omega);intro v3 w3 hown3 hb3 hg3;have bx3:=(bx.alloc (.cells #[.string t] 9)).below (by omega) hb3;have y0:=bx3.cell 0 rfl;have yl:=bx3.lt;have hbw3:=(zc hbw).trans (hb3.mono (by omega));obtain⟨b0,o,A2,c2,A3,c3,rfl,hb,d0,d1,d2,d3,hc2,hs2,hc3,hs3⟩:=(hsl.mono hbw3).cls_at hnl;cases hq:cs[n].super.toList.isEmpty)
    ·have HQ:=v9h (HMORE.out hq)
     have HSL3:=v9h hown3.slLen
     go_wp2_with fail
     refine(qK _ c cs cs[n].super _ hl (hsl.mono hbw3)).mono ?_;rintro e w4 ⟨rfl,hb4⟩
     go_wp2_with fail
     go_roundw
     case rel=>exact⟨_,P++[(n:Int)],rfl,rfl,HQ,by rw[List.length_append];simp;omega,by rw[HMAP.out];exact hown3.mono hb4,bx3.mono hb4,za hbw3 hb4⟩
     case measure=>rw[HSL.out,HSL3.out,List.length_append];simp;omega
    ·have HE:=v9h (HLAST.out hq)
     have HB:Hid (cy=false):=by show _=_;rw[HCY.out,HE.out.2]
     go_wp2_with fail
     go_ret2
     exact⟨⟨_,by rw[HB.out];rfl,by rw[←HE.out.1];exact hown3.weaken (by omega)⟩,hbw3⟩
  ·have HE:=v9h (HS.out.stop (fun h=>h0 h.1))
   have HB:Hid (cy=false):=by show _=_;rw[HCY.out,HE.out.2,decide_eq_false h0]
   go_wp2_with fail
   go_ret2
   exact⟨⟨_,by rw[HB.out];rfl,by rw[←HE.out.1];exact hown.weaken (by omega)⟩,hbw⟩
theorem xj(A:Option Addr)(c:Nat)(cs:List Cls)(s:ByteArray)(w:World)(hl:cs.length≤8796093022208)(hsl:Sl Lay.cls w A cs) :
  Calls Tryz.prog 41 #[.agg #[.slice A cs.length c],.string s] w fun e w'=>(∃v,e = .returned v∧Own yd 1 w.heap.size 9 w' v (zx cs s))∧Below w.heap.size w w':=by
 have hb0:Below w.heap.size w (w.alloc (.cells #[.slice A cs.length c] 29)):=(by repeat(first|assumption|exact v9r|apply zc|apply zd|apply zg|apply ze|apply zi))
 go_enter Tryz.func41,Tryz.ntmps41
 go_wp2_with fail
 refine(abF A c cs s _ hl (hsl.mono hb0)).mono ?_;rintro e w1 ⟨⟨v,rfl,hown⟩,hb1⟩
 go_wp2_with fail
 go_ret
 exact⟨⟨_,rfl,hown.weaken hb0.size⟩,za hb0 hb1⟩
theorem adW{cs:List Cls}:∀(f:Nat) (i:Int) (l:List Int),(0≤i→fnd cs (nmAt cs i)=i)→(∀j∈l,fnd cs (nmAt cs j)=j)→∀j∈(chGo (supI cs) f i l).1,fnd cs (nmAt cs j)=j
 | 0,i,l,_,h=>h
 |f+1,i,l,hi,h=>by
  by_cases hc:0≤i∧i∉l
  ·rw[qe hc]
   refine adW f _ _ (fun h0=>?_) (fun j hj=>?_)
   ·unfold supI at h0 ⊢
    split at h0
    ·split at h0
     ·omega
     ·rename_i hq
      rw[if_neg hq] at *
      rw[xv h0]
    ·omega
   ·rcases List.mem_append.1 hj with hj|hj
    ·exact h j hj
    ·simp at hj;subst hj;exact hi hc.1
  ·rw[yF hc];exact h
theorem ab5(cs:List Cls)(s:ByteArray):∀j∈(chR cs (fnd cs s)).1,fnd cs (nmAt cs j)=j:=
 adW _ _ _ (fun h0=>by rw[xv h0]) (by simp)
theorem xd(A:Option Addr)(c:Nat)(cs:List Cls)(s:ByteArray)(w:World)(hl:cs.length≤8796093022208)(hsl:Sl Lay.cls w A cs) :
  Calls Tryz.prog 267 #[.agg #[.slice A cs.length c],.string s] w fun e w'=>e = .returned (.bool (isTy cs s))∧Below w.heap.size w w':=by
 have HF:=v9h (fun W (h:Below w.heap.size w W)=>qK A c cs s W hl (hsl.mono h));obtain⟨r,HR⟩:∃r,Hid (r=isTy cs s):=⟨_,v9h rfl⟩
 rw[←HR.out]
 cases q:(s.toList==[105,110,116]) with
 |true=>
  have HB:Hid (r=true):=by show r=true;rw[HR.out];unfold isTy;rw[q];rfl
  go_enter Tryz.func267,Tryz.ntmps267
  go_wp2_with fail
  go_ret
  exact⟨by rw[HB.out];rfl,(by repeat(first|assumption|exact v9r|apply zc|apply zd|apply zg|apply ze|apply zi))⟩
 |false=>
  have HB:Hid (r=decide (0≤fnd cs s)):=by show r=_;rw[HR.out];unfold isTy;rw[q];rfl
  generalize fnd cs s=k at *
  go_enter Tryz.func267,Tryz.ntmps267
  go_upto_region 1 with fail
  generalize hW:World.alloc _ _=W1 at *
  have hb1:Below w.heap.size w W1:=by rw[←hW];exact(by repeat(first|assumption|exact v9r|apply zc|apply zd|apply zg|apply ze|apply zi))
  have bx:Box W1 w.heap.size [.slice A cs.length c] 29:=by rw[←hW];exact(by repeat(first|(refine Box.at ?_;(simp;done))|apply Box.drew|apply Box.alloc|assumption))
  clear hW;have x0:=bx.cell 0 rfl;have xl:=bx.lt
  go_wp2_with fail
  refine(HF.out _ hb1).mono ?_;rintro e w2 ⟨rfl,hb2⟩
  go_wp2_with fail
  go_ret
  exact⟨by rw[HB.out];rfl,za hb1 hb2⟩
theorem abG(A:Option Addr)(c:Nat)(cs:List Cls)(a b:ByteArray)(w:World)(hl:cs.length≤8796093022208)(hsl:Sl Lay.cls w A cs) :
  Calls Tryz.prog 20 #[.agg #[.slice A cs.length c],.string a,.string b] w fun e w'=>e = .returned (.bool (hasS (zx cs a) b))∧Below w.heap.size w w':=by
 have hN:=xi cs a;have HSUP:=v9h (fun W (h:Below w.heap.size w W)=>xj A c cs a W hl (hsl.mono h));generalize zx cs a=N at *
 go_enter Tryz.func20,Tryz.ntmps20
 go_upto_region 1 with fail
 generalize hW:World.alloc _ _=W1 at *
 have hb1:Below w.heap.size w W1:=by rw[←hW];exact(by repeat(first|assumption|exact v9r|apply zc|apply zd|apply zg|apply ze|apply zi))
 have bx:Box W1 w.heap.size [.slice A cs.length c] 29:=by rw[←hW];exact(by repeat(first|(refine Box.at ?_;(simp;done))|apply Box.drew|apply Box.alloc|assumption))
 clear hW;have x0:=bx.cell 0 rfl;have xl:=bx.lt
 go_wp2_with fail
 refine(HSUP.out _ hb1).mono ?_;rintro e w2 ⟨⟨v2,rfl,ho2⟩,hb2⟩;obtain⟨A2,c2,rfl,hc2,hs2⟩:=qN.of_own ho2
 go_wp2_with fail
 refine(ab4 A2 c2 N b _ (by omega) hs2).mono ?_;rintro e w3 ⟨rfl,rfl⟩
 go_wp2_with fail
 go_ret
 exact⟨rfl,za hb1 hb2⟩
theorem ail{w:World}{b o:Nat}{l:List ByteArray}(h:Sl Lay.str w (some ⟨b,o,none⟩) l):Sl Lay.str w (some ⟨b,o+1,none⟩) l.tail:=fun i x hx=>by
 cases l with
 |nil=>simp at hx
 |cons a t=>
  have hx':(a::t)[i+1]? = some x:=by simpa using hx
  obtain⟨b',o',vs,e,h1,h2,h3⟩:=h (i+1) x hx';simp only[Option.some.injEq,Addr.mk.injEq] at e;obtain⟨rfl,rfl,_⟩:=e
  exact⟨b,o+1,vs,rfl,h1,h2,fun j v hj=>by
   have:=h3 j v hj;rwa[show o+(i+1)*Lay.str.size+j=o+1+i*Lay.str.size+j from by show o+(i+1)*1+j=o+1+i*1+j;omega] at this⟩
theorem adX{w:World}{A:Option Addr}:Sl Lay.str w A []:=fun i x hx=>by simp at hx
theorem aim(A:Option Addr)(c:Nat)(cs:List Cls)(s:ByteArray)(w:World)(hl:cs.length≤8796093022208)(hsl:Sl Lay.cls w A cs) :
  Calls Tryz.prog 345 #[.agg #[.slice A cs.length c],.string s] w fun e w'=>(∃v,e = .returned v∧qN w' v (zx cs s).tail)∧Below w.heap.size w w':=by
 have hN:=xi cs s;have HSUP:=v9h (fun W (h:Below w.heap.size w W)=>xj A c cs s W hl (hsl.mono h));generalize zx cs s=N at *
 go_enter Tryz.func345,Tryz.ntmps345
 go_upto_region 1 with fail
 generalize hW:World.alloc _ _=W1 at *
 have hb1:Below w.heap.size w W1:=by rw[←hW];exact(by repeat(first|assumption|exact v9r|apply zc|apply zd|apply zg|apply ze|apply zi))
 have bx:Box W1 w.heap.size [.slice A cs.length c] 29:=by rw[←hW];exact(by repeat(first|(refine Box.at ?_;(simp;done))|apply Box.drew|apply Box.alloc|assumption))
 clear hW;have x0:=bx.cell 0 rfl;have xl:=bx.lt
 go_wp2_with fail
 refine(HSUP.out _ hb1).mono ?_;rintro e w2 ⟨⟨v2,rfl,ho2⟩,hb2⟩;have hbw2:=za hb1 hb2;obtain⟨A2,c2,rfl,hc2,hs2⟩:=qN.of_own ho2;clear ho2
 cases hNN:N.length with
 |zero=>
  have hN0:=v9h (List.length_eq_zero_iff.1 hNN)
  go_wp2_with fail
  go_ret
  exact⟨⟨_,rfl,none,0,by rw[hN0.out];rfl,by rw[hN0.out];exact Nat.le_refl _,by rw[hN0.out];exact adX⟩,hbw2⟩
 |succ n=>
  obtain⟨b,o,rfl,hb,d0⟩:=hs2.str_at (i:=0) (by omega);have hT:=v9h (ail hs2);have htl:Hid (N.tail.length=n):=by show _=n;rw[List.length_tail];omega
  have hz:(((n+1:Nat):Int)==0)=false:=by rw[beq_eq_false_iff_ne];omega
  rw[hNN] at hc2 hN;clear d0
  by_cases hc1:c2=1
  ·have hn0:n=0:=by omega
   subst hc1 hn0;have hN1:Hid (N.tail=[]):=List.length_eq_zero_iff.1 htl.out
   go_wp2_with fail
   go_ret
   exact⟨⟨_,rfl,_,_,by rw[hN1.out];rfl,by rw[hN1.out];exact Nat.zero_le _,by rw[hN1.out];exact adX⟩,hbw2⟩
  ·go_wp2_with fail
   go_ret
   exact⟨⟨_,rfl,_,_,by rw[htl.out];rfl,by rw[htl.out];omega,hT.out⟩,hbw2⟩
end Go.Proofs.YtmhdambkchlilaaGreatDoor
