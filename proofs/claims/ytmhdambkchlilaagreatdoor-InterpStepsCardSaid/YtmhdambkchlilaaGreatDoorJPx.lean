/- Chapter 13: the answer's Lines and Words. Chapter 13: the answer's Number at the closed words of the law of chapter 15. Chapter 13: the answer's parseInstr at the closed lines of the law of chapter 15. -/
import Derived.Test.YtmhdambkchlilaaGreatDoorJLexB
import Derived.Test.YtmhdambkchlilaaGreatDoorJGa
import Derived.Test.YtmhdambkchlilaaGreatDoorJGb
import Derived.Test.YtmhdambkchlilaaGreatDoorJRs
import Derived.Test.YtmhdambkchlilaaGreatDoorJRa
namespace Go.Proofs.YtmhdambkchlilaaGreatDoor
open Go.RowKit
set_option linter.unusedVariables false
set_option maxRecDepth 100000
set_option maxHeartbeats 4000000
theorem ae9(s:ByteArray){k:Nat}(h:k<s.size)(c:UInt8):((((s[k]'h).toNat:Nat):Int)==((c.toNat:Nat):Int))=(s[k]'h==c):=by
 by_cases e:s[k]=c
 ·rw[e];simp
 ·have h2:¬s[k].toNat=c.toNat:=fun e2=>e (UInt8.toNat_inj.1 e2)
  rw[show(s[k]==c)=false by simpa using e,beq_eq_false_iff_ne]
  omega
def lnGo(s:ByteArray):Nat→List ByteArray×Nat
 | 0=>([],0)
 |i+1=>if s.data.getD i 0==10 then((lnGo s i).1++[s.extract (lnGo s i).2 i],i+1) else lnGo s i
theorem ab6{s:ByteArray}{k:Nat}(h:k<s.size):s.data.getD k 0=s[k]:=by
 simp only[Array.getD_eq_getD_getElem?];rw[Array.getElem?_eq_getElem (show k<s.data.size from h)]
 rfl
theorem ahv{s:ByteArray}{k:Nat}(h:k<s.size)(hc:(s[k]==10)=true):lnGo s (k+1)=((lnGo s k).1++[s.extract (lnGo s k).2 k],k+1):=by rw[lnGo,ab6 h,hc];rfl
theorem aiz{s:ByteArray}{k:Nat}(h:k<s.size)(hc:(s[k]==10)=false):lnGo s (k+1)=lnGo s k:=by rw[lnGo,ab6 h,hc];rfl
theorem afa(s:ByteArray):∀k,(lnGo s k).2≤k∧(lnGo s k).1.length≤k
 | 0=>by simp[lnGo]
 |k+1=>by
  have:=afa s k;rw[lnGo]
  split
  ·simp;omega
  ·omega
def lnR(s:ByteArray):List ByteArray×Bool:=if(lnGo s s.size).2<s.size then((lnGo s s.size).1++[s.extract (lnGo s s.size).2 s.size],false) else((lnGo s s.size).1,true)
def ju(w w':World)(p:List ByteArray×Bool)(e:Ending):Prop:=∃v,e = .returned (.tuple #[v,.bool p.2])∧Own yd 1 w.heap.size 9 w' v p.1
theorem Own.isSl'{α:Type}{cells:α→List Value}{size base:Nat}{e:TypeId}{w:World}{v:Value}{l:List α}(h:Own cells size base e w v l):∃A n c,v = .slice A n c:=by
 rcases h.2 with⟨rfl,_⟩|⟨g,cap,cur,rfl,_⟩
 ·exact⟨_,_,_,rfl⟩
 ·exact⟨_,_,_,rfl⟩
theorem ad8(s:ByteArray)(w:World)(hs:s.size≤1000000) :
  Calls Tryz.prog 72 #[.string s] w fun e w'=>ju w w' (lnR s) e∧Below w.heap.size w w':=by
 obtain⟨R,HR⟩:∃R,Hid (R=lnR s):=⟨_,v9h rfl⟩
 rw[←HR.out]
 go_enter Tryz.func72,Tryz.ntmps72
 go_wp2_with fail
 go_loopw [4,5,6] (fun v f i wr=>∃k fr:Nat,k≤s.size∧i = .int .i64 k∧f = .int .i64 fr∧fr≤k∧Hid (fr=(lnGo s k).2)∧Own yd 1 w.heap.size 9 wr v (lnGo s k).1∧Below w.heap.size w wr) (fun _ _ i _=>s.size-(intOf i).toNat)
 case atStart=>exact⟨0,0,Nat.zero_le _,rfl,rfl,Nat.le_refl _,v9h rfl,Own.nil,v9r⟩
 case round=>
  obtain⟨k,fr,hk,rfl,rfl,hfr,HF,ho,hbw⟩:=hrel;have hbd:=(afa s k).2;obtain⟨AL,nL,cL,rfl⟩:=ho.isSl'
  by_cases hlt:k<s.size
  ·have e1:=ae9 s hlt 10
   have HY:=v9h (@ahv s k hlt);have HN:=v9h (@aiz s k hlt);have hfI:(fr:Int)≤(k:Int):=by omega
   have hkI:(k:Int)≤(s.size:Int):=by omega
   obtain⟨L,HL⟩:∃L,Hid (L=(lnGo s k).1):=⟨_,v9h rfl⟩
   rw[←HL.out] at ho hbd HY;rw[←HF.out] at HY;obtain⟨q,hq⟩:∃q,q=(s[k]==10):=⟨_,rfl⟩
   rw[←hq] at e1 HY HN;have e1':(((s[k].toNat:Nat):Int)==10)=q:=e1;clear hq e1
   cases q with
   |true=>
    have HY2:=v9h (HY.out rfl);have HN1:Hid ((lnGo s (k+1)).1=L++[s.extract fr k]):=by show _=_;rw[HY2.out]
    have HN3:Hid (k+1=(lnGo s (k+1)).2):=by show _=_;rw[HY2.out]
    go_wp2_with (at_builtin;refine zF ks yA rfl (.tmp 17) (.tmp 22) rfl w.heap.size _ _ rfl (Own.alloc ho _) (s.extract fr k) _ _ rfl (zY _ _ _) (by simp[maxLen];omega) (by omega) ?_ ?_;(have:=hbw.size;simp;omega);intro v4 w4 ho4 hc4 hg4;have hb4:Below w.heap.size w w4:=(zc hbw).trans hc4;obtain⟨AM,nM,cM,rfl⟩:=ho4.isSl')
    go_roundw
    case rel=>exact⟨k+1,k+1,by omega,by go_num,by go_num,Nat.le_refl _,HN3,by rw[HN1.out];exact ho4,hb4⟩
    case measure=>simp[intOf];omega
   |false=>
    have HN2:=v9h (HN.out rfl)
    go_wp2_with fail
    go_roundw
    case rel=>exact⟨k+1,fr,by omega,by go_num,rfl,by omega,by show fr=_;rw[HN2.out];exact HF.out,by rw[HN2.out,←HL.out];exact ho,hbw⟩
    case measure=>simp[intOf];omega
  ·have hke:k=s.size:=by omega
   have HE1:Hid (R=if fr<s.size then((lnGo s k).1++[s.extract fr s.size],false) else((lnGo s k).1,true)):=by show R=_;rw[HR.out,HF.out];subst hke;rfl
   obtain⟨L,HL⟩:∃L,Hid (L=(lnGo s k).1):=⟨_,v9h rfl⟩
   rw[←HL.out] at ho hbd HE1;have hbd2:L.length≤1000000:=by omega
   have hfs:fr≤s.size:=by omega
   have hfsI:(fr:Int)≤(s.size:Int):=by omega
   clear hke
   by_cases h1:fr<s.size
   ·have HE2:Hid (R=(L++[s.extract fr s.size],false)):=by show R=_;rw[HE1.out,if_pos h1]
    have h1I:(fr:Int)<(s.size:Int):=by omega
    go_wp2_with (at_builtin;refine zF ks yA rfl (.tmp 30) (.tmp 34) rfl w.heap.size _ _ rfl (Own.alloc ho _) (s.extract fr s.size) _ _ rfl (zY _ _ _) (by simp[maxLen];omega) (by omega) ?_ ?_;(have:=hbw.size;simp;omega);intro v4 w4 ho4 hc4 hg4;have hb4:Below w.heap.size w w4:=(zc hbw).trans hc4)
    go_ret2
    exact⟨⟨_,by rw[HE2.out];rfl,by rw[HE2.out];exact ho4⟩,hb4⟩
   ·have HE2:Hid (R=(L,true)):=by show R=_;rw[HE1.out,if_neg h1]
    have h1I:¬(fr:Int)<(s.size:Int):=by omega
    go_wp2_with fail
    go_ret2
    exact⟨⟨_,by rw[HE2.out];rfl,by rw[HE2.out];exact ho⟩,hbw⟩
def wdGo(s:ByteArray):Nat→Option (List ByteArray×ByteArray)
 | 0=>some ([],ByteArray.empty)
 |i+1=>match wdGo s i with
  |none=>none
  |some p=>if s.data.getD i 0==32 then(if p.2.toList.isEmpty then none else some (p.1++[p.2],ByteArray.empty)) else some (p.1,p.2++s.extract i (i+1))
def wdR(s:ByteArray):List ByteArray×Bool:=match wdGo s s.size with
 |none=>([],false)
 |some p=>(p.1++[p.2],!p.2.toList.isEmpty)
theorem acN{s:ByteArray}{k:Nat}(h:wdGo s k=none):∀j,k≤j→wdGo s j=none
 | 0,hj=>by
  have:k=0:=by omega
  subst this;exact h
 |j+1,hj=>by
  by_cases e:k=j+1
  ·subst e;exact h
  ·rw[wdGo,acN h j (by omega)]
theorem ad9(s:ByteArray):∀k p,wdGo s k=some p→p.1.length≤k
 | 0,p,h=>by
  have:p=([],ByteArray.empty):=by injection h with h;exact h.symm
  subst this;simp
 |k+1,p,h=>by
  rw[wdGo] at h
  cases hq:wdGo s k with
  |none=>rw[hq] at h;cases h
  |some q=>
   rw[hq] at h;have h1:=ad9 s k q hq;have h2:(if s.data.getD k 0==32 then(if q.2.toList.isEmpty then none else some (q.1++[q.2],ByteArray.empty)) else some (q.1,q.2++s.extract k (k+1)))=some p:=h
   split at h2
   ·split at h2
    ·cases h2
    ·injection h2 with h2;subst h2;simp;omega
   ·injection h2 with h2;subst h2;simp;omega
theorem qG(s:ByteArray)(w:World)(hs:s.size≤1000000) :
  Calls Tryz.prog 73 #[.string s] w fun e w'=>ju w w' (wdR s) e∧Below w.heap.size w w':=by
 obtain⟨R,HR⟩:∃R,Hid (R=wdR s):=⟨_,v9h rfl⟩
 rw[←HR.out]
 go_enter Tryz.func73,Tryz.ntmps73
 go_wp2_with fail
 go_loopw [4,5,6] (fun v t i wr=>∃(k:Nat) (L:List ByteArray) (x:ByteArray),k≤s.size∧i = .int .i64 k∧t = .string x∧x.size≤k∧Hid (wdGo s k=some (L,x))∧Own yd 1 w.heap.size 9 wr v L∧Below w.heap.size w wr) (fun _ _ i _=>s.size-(intOf i).toNat)
 case atStart=>exact⟨0,[],ByteArray.empty,Nat.zero_le _,rfl,rfl,by decide,v9h rfl,Own.nil,v9r⟩
 case round=>
  obtain⟨k,L,x,hk,rfl,rfl,hxk,HW,ho,hbw⟩:=hrel;have hbd:L.length≤k:=ad9 s k _ HW.out;obtain⟨AL,nL,cL,rfl⟩:=ho.isSl'
  by_cases hlt:k<s.size
  ·have e1:=ae9 s hlt 32
   have HS:Hid (wdGo s (k+1)=if(s[k]==32)=true then(if x.toList.isEmpty then none else some (L++[x],ByteArray.empty)) else some (L,x++s.extract k (k+1))):=by show _=_;rw[wdGo,HW.out,ab6 hlt]
   obtain⟨q,hq⟩:∃q,q=(s[k]==32):=⟨_,rfl⟩
   rw[←hq] at e1 HS;have hkI:(k:Int)+1≤(s.size:Int):=by omega
   clear hq
   cases q with
   |false=>
    have e2:(((s[k].toNat:Nat):Int) != 32)=true:=by
     show(!_)=true;have e3:(((s[k].toNat:Nat):Int)==32)=false:=e1;rw[e3];rfl
    have HS2:Hid (wdGo s (k+1)=some (L,x++s.extract k (k+1))):=by show _=_;rw[HS.out];rfl
    have hez:(s.extract k (k+1)).size≤1:=by rw[ByteArray.size_extract];omega
    have hxz:(x++s.extract k (k+1)).size≤k+1:=by rw[ByteArray.size_append];omega
    clear e1
    go_wp2_with fail
    go_roundw
    case rel=>exact⟨k+1,L,x++s.extract k (k+1),by omega,by go_num,rfl,hxz,HS2,ho,hbw⟩
    case measure=>simp[intOf];omega
   |true=>
    have e2:(((s[k].toNat:Nat):Int) != 32)=false:=by
     show(!_)=false;have e3:(((s[k].toNat:Nat):Int)==32)=true:=e1;rw[e3];rfl
    clear e1
    cases hx:x.toList.isEmpty with
    |true=>
     have HB:Hid (R=([],false)):=by
      show R=_;have h1:wdGo s (k+1)=none:=by rw[HS.out,hx];rfl
      rw[HR.out];unfold wdR;rw[acN h1 s.size (by omega)]
     go_wp2_with fail
     go_ret2
     exact⟨⟨_,by rw[HB.out];rfl,by rw[HB.out];exact Own.nil⟩,hbw⟩
    |false=>
     have HS2:Hid (wdGo s (k+1)=some (L++[x],ByteArray.empty)):=by show _=_;rw[HS.out,hx];rfl
     go_wp2_with (at_builtin;refine zF ks yA rfl (.tmp 26) (.tmp 28) rfl w.heap.size _ _ rfl (Own.alloc ho _) x _ _ rfl (zY _ _ _) (by simp[maxLen];omega) (by omega) ?_ ?_;(have:=hbw.size;simp;omega);intro v4 w4 ho4 hc4 hg4;have hb4:Below w.heap.size w w4:=(zc hbw).trans hc4;obtain⟨AM,nM,cM,rfl⟩:=ho4.isSl')
     go_roundw
     case rel=>exact⟨k+1,L++[x],ByteArray.empty,by omega,by go_num,rfl,Nat.zero_le _,HS2,ho4,hb4⟩
     case measure=>simp[intOf];omega
  ·have hke:k=s.size:=by omega
   have HE1:Hid (R=(L++[x],!x.toList.isEmpty)):=by
    show R=_;have h1:=HW.out;rw[hke] at h1;rw[HR.out];unfold wdR;rw[h1]
   clear hke
   cases hx:x.toList.isEmpty with
   |true=>
    have hx2:(x.toList != ([]:List UInt8))=false:=by cases h:x.toList with
     |nil=>rfl
     |cons a b=>rw[h] at hx;cases hx
    have HE2:Hid (R=(L++[x],false)):=by show R=_;rw[HE1.out,hx];rfl
    go_wp2_with (at_builtin;refine zF ks yA rfl (.tmp 30) (.tmp 32) rfl w.heap.size _ _ rfl (Own.alloc ho _) x _ _ rfl (zY _ _ _) (by simp[maxLen];omega) (by omega) ?_ ?_;(have:=hbw.size;simp;omega);intro v4 w4 ho4 hc4 hg4;have hb4:Below w.heap.size w w4:=(zc hbw).trans hc4)
    go_ret2
    exact⟨⟨_,by rw[HE2.out];rfl,by rw[HE2.out];exact ho4⟩,hb4⟩
   |false=>
    have hx2:(x.toList != ([]:List UInt8))=true:=by cases h:x.toList with
     |nil=>rw[h] at hx;cases hx
     |cons a b=>rfl
    have HE2:Hid (R=(L++[x],true)):=by show R=_;rw[HE1.out,hx];rfl
    go_wp2_with (at_builtin;refine zF ks yA rfl (.tmp 30) (.tmp 32) rfl w.heap.size _ _ rfl (Own.alloc ho _) x _ _ rfl (zY _ _ _) (by simp[maxLen];omega) (by omega) ?_ ?_;(have:=hbw.size;simp;omega);intro v4 w4 ho4 hc4 hg4;have hb4:Below w.heap.size w w4:=(zc hbw).trans hc4)
    go_ret2
    exact⟨⟨_,by rw[HE2.out];rfl,by rw[HE2.out];exact ho4⟩,hb4⟩
theorem aeQ(w:World):Calls Tryz.prog 216 #[.string ⟨#[48]⟩] w fun e w'=>e = .returned (.tuple #[.int .i64 0,.bool true])∧w=w':=by
 have HN:Hid (∀W,W=w→Calls Tryz.prog 266 #[.string ⟨#[48]⟩] W fun e w'=>e = .returned (.bool true)∧W=w'):=fun W hW=>by
  have:=ki ⟨#[48]⟩ W (by decide);rwa[show natL (toL ⟨#[48]⟩)=true by kernel_rfl] at this
 go_enter Tryz.func216,Tryz.ntmps216
 go_wp2_with fail
 refine(HN.out _ rfl).mono ?_;rintro e w1 ⟨rfl,rfl⟩
 go_wp2_with fail
 refine wp_loop_rounds 2 ?_;rw[rounds_succ]
 go_wp2_with fail
 rw[rounds_succ]
 go_wp2_with fail
 go_ret2
 exact⟨rfl,rfl⟩
theorem kV(w:World):Calls Tryz.prog 216 #[.string ⟨#[45,49]⟩] w fun e w'=>e = .returned (.tuple #[.int .i64 (-1),.bool true])∧w=w':=by
 have HN:Hid (∀W,W=w→Calls Tryz.prog 266 #[.string ⟨#[49]⟩] W fun e w'=>e = .returned (.bool true)∧W=w'):=fun W hW=>by
  have:=ki ⟨#[49]⟩ W (by decide);rwa[show natL (toL ⟨#[49]⟩)=true by kernel_rfl] at this
 have e1:(⟨#[45,49]⟩:ByteArray).extract 1 2=⟨#[49]⟩:=by kernel_rfl
 have e2:((⟨#[49]⟩:ByteArray)==⟨#[48]⟩)=false:=by kernel_rfl
 go_enter Tryz.func216,Tryz.ntmps216
 go_wp2_with fail
 refine(HN.out _ rfl).mono ?_;rintro e w1 ⟨rfl,rfl⟩
 go_wp2_with fail
 refine wp_loop_rounds 2 ?_;rw[rounds_succ]
 go_wp2_with fail
 rw[rounds_succ]
 go_wp2_with fail
 go_ret2
 refine⟨?_,rfl⟩;show Ending.returned (.tuple #[.int .i64 (wrap64 (wrap64 (-wrap64 (IntKind.u64.wrap (((⟨#[49]⟩:ByteArray)[0].toNat-48:Int) % 256-1)))-1)),.bool true])=_
 kernel_rfl
theorem Box.store10{w:World}{b:Nat}{a0 a1 a2 a3 a4 a5 a6 a7 a8 a9:Value}{t:TypeId}(h:Box w b [a0,a1,a2,a3,a4,a5,a6,a7,a8,a9] t)(v0 v1 v2 v3 v4 v5 v6 v7 v8 v9:Value) :
  Box ((((((((((w.setCell ⟨b,0,none⟩ v0).setCell ⟨b,1,none⟩ v1).setCell ⟨b,2,none⟩ v2).setCell ⟨b,3,none⟩ v3).setCell ⟨b,4,none⟩ v4).setCell ⟨b,5,none⟩ v5).setCell ⟨b,6,none⟩ v6).setCell ⟨b,7,none⟩ v7).setCell ⟨b,8,none⟩ v8).setCell ⟨b,9,none⟩ v9) b [v0,v1,v2,v3,v4,v5,v6,v7,v8,v9] t∧w.grownBy ((((((((((w.setCell ⟨b,0,none⟩ v0).setCell ⟨b,1,none⟩ v1).setCell ⟨b,2,none⟩ v2).setCell ⟨b,3,none⟩ v3).setCell ⟨b,4,none⟩ v4).setCell ⟨b,5,none⟩ v5).setCell ⟨b,6,none⟩ v6).setCell ⟨b,7,none⟩ v7).setCell ⟨b,8,none⟩ v8).setCell ⟨b,9,none⟩ v9) (some b):=
 ⟨(((((((((h.set 0 v0).set 1 v1).set 2 v2).set 3 v3).set 4 v4).set 5 v5).set 6 v6).set 7 v7).set 8 v8).set 9 v9,zJ (zJ (zJ (zJ (zJ (zJ (zJ (zJ (zJ (zq _ _ _ _) (zq _ _ _ _)) (zq _ _ _ _)) (zq _ _ _ _)) (zq _ _ _ _)) (zq _ _ _ _)) (zq _ _ _ _)) (zq _ _ _ _)) (zq _ _ _ _)) (zq _ _ _ _)⟩
def opG(s:ByteArray):Nat→Nat→Int
 | 0,_=> -1
 |n+1,k=>if(nmR (k:Int)).toList==s.toList then(k:Int) else opG s n (k+1)
theorem aiA{s:ByteArray}{k:Nat}(hk:k≤16)(h:((nmR (k:Int)).toList==s.toList)=true):opG s (17-k) k=k:=by
 rw[show 17-k=(16-k)+1 by omega,opG,h];rfl
theorem ajd{s:ByteArray}{k:Nat}(hk:k≤16)(h:((nmR (k:Int)).toList==s.toList)=false):opG s (17-k) k=opG s (17-(k+1)) (k+1):=by
 rw[show 17-k=(16-k)+1 by omega,opG,h,show 17-(k+1)=16-k by omega];rfl
theorem aaZ(s:ByteArray)(w:World):Calls Tryz.prog 217 #[.string s] w fun e w'=>e = .returned (.int .i64 (opG s 17 0))∧Below w.heap.size w w':=by
 obtain⟨r,HR⟩:∃r,Hid (r=opG s 17 0):=⟨_,v9h rfl⟩
 rw[←HR.out]
 go_enter Tryz.func217,Tryz.ntmps217
 go_wp2_with fail
 go_loopw [3] (fun i wr=>∃k:Nat,k≤17∧i = .int .i64 k∧Hid (r=opG s (17-k) k)∧Below w.heap.size w wr) (fun i _=>17-(intOf i).toNat)
 case atStart=>exact⟨0,by omega,rfl,HR,v9r⟩
 case round=>
  obtain⟨k,hk,rfl,H,hbw⟩:=hrel
  by_cases hlt:k≤16
  ·have hlI:(k:Int)≤16:=by omega
   have HY:=v9h (@aiA s k hlt);have HN:=v9h (@ajd s k hlt);have HC:=v9h (kq (k:Int) wr);obtain⟨x,hx⟩:∃x,Hid (x=nmR (k:Int)):=⟨_,v9h rfl⟩
   rw[←hx.out] at HY HN HC;obtain⟨q,hq⟩:∃q,q=(x.toList==s.toList):=⟨_,rfl⟩
   rw[←hq] at HY HN;have hq':=hq.symm;clear hq
   cases q with
   |true=>
    have HE:Hid (r=(k:Int)):=by show r=_;rw[H.out,HY.out rfl]
    clear HY HN H HR
    go_wp2_with fail
    refine HC.out.mono ?_;rintro e w1 ⟨rfl,hb1⟩
    go_wp2_with fail
    go_ret
    exact⟨by rw[HE.out];rfl,za hbw hb1⟩
   |false=>
    have HE:Hid (r=opG s (17-(k+1)) (k+1)):=by show r=_;rw[H.out,HN.out rfl]
    clear HY HN H HR
    go_wp2_with fail
    refine HC.out.mono ?_;rintro e w1 ⟨rfl,hb1⟩
    go_wp2_with fail
    go_roundw
    case rel=>exact⟨k+1,by omega,by go_num,HE,za hbw hb1⟩
    case measure=>simp[intOf];omega
  ·have hlI:¬(k:Int)≤16:=by omega
   obtain rfl:k=17:=by omega
   have HE:Hid (r = -1):=H;clear H HR
   go_wp2_with fail
   go_ret
   exact⟨by rw[HE.out];rfl,hbw⟩
theorem afV(w:World):Calls Tryz.prog 218 #[.agg #[.int .i64 5,.int .i64 0,.int .i64 0,.int .i64 0,.int .i64 0,.string ⟨#[]⟩,.string ⟨#[]⟩,.slice none 0 0,.int .i64 0,.int .i64 (-1)],.int .u8 100,.string ⟨#[48]⟩] w fun e w'=>e = .returned (.tuple #[.agg #[.int .i64 5,.int .i64 0,.int .i64 0,.int .i64 0,.int .i64 0,.string ⟨#[]⟩,.string ⟨#[]⟩,.slice none 0 0,.int .i64 0,.int .i64 (-1)],.bool true])∧Below w.heap.size w w':=by
 have HN:=v9h (fun W=>aeQ W)
 go_enter Tryz.func218,Tryz.ntmps218
 go_upto_region 1 with fail
 generalize hW:World.alloc (World.alloc _ _) _=W1 at *
 have hb1:Below w.heap.size w W1:=by rw[←hW];exact(by repeat(first|assumption|exact v9r|apply zc|apply zd|apply zg|apply ze|apply zi))
 have bx:Box W1 w.heap.size [.int .i64 5,.int .i64 0,.int .i64 0,.int .i64 0,.int .i64 0,.string ⟨#[]⟩,.string ⟨#[]⟩,.slice none 0 0,.int .i64 0,.int .i64 (-1)] 59:=by rw[←hW];exact(Box.new _ _ _).alloc _
 have br:Box W1 (w.heap.size+1) [.int .i64 0,.int .i64 0,.int .i64 0,.int .i64 0,.int .i64 0,.string ⟨#[]⟩,.string ⟨#[]⟩,.slice none 0 0,.int .i64 0,.int .i64 0] 59:=by rw[←hW];exact Box.at (w:=w.alloc _) (by simp)
 clear hW;have q:=bx.cell 1 rfl;have ql:=bx.lt;have qf:=fun i=>bx.free i
 go_wp2_with fail
 refine(HN.out _).mono ?_;rintro e w1 ⟨rfl,rfl⟩
 go_upto_region 22 with fail
 have hb2:Below w.heap.size w (W1.setCell ⟨w.heap.size,1,none⟩ (.int .i64 0)):=hb1.grown (zq _ _ _ _) hb1.size (fun k hk=>by injection hk with hk;omega);have bx2:Box (W1.setCell ⟨w.heap.size,1,none⟩ (.int .i64 0)) w.heap.size [.int .i64 5,.int .i64 0,.int .i64 0,.int .i64 0,.int .i64 0,.string ⟨#[]⟩,.string ⟨#[]⟩,.slice none 0 0,.int .i64 0,.int .i64 (-1)] 59:=bx.set 1 (.int .i64 0);have br2:Box (W1.setCell ⟨w.heap.size,1,none⟩ (.int .i64 0)) (w.heap.size+1) [.int .i64 0,.int .i64 0,.int .i64 0,.int .i64 0,.int .i64 0,.string ⟨#[]⟩,.string ⟨#[]⟩,.slice none 0 0,.int .i64 0,.int .i64 0] 59:=br.setOther (by simp) _;generalize World.setCell _ _ _=W2 at *
 clear q ql qf bx br hb1;have y0:=bx2.cell 0 rfl;have y1:=bx2.cell 1 rfl;have y2:=bx2.cell 2 rfl;have y3:=bx2.cell 3 rfl;have y4:=bx2.cell 4 rfl;have y5:=bx2.cell 5 rfl;have y6:=bx2.cell 6 rfl;have y7:=bx2.cell 7 rfl;have y8:=bx2.cell 8 rfl;have y9:=bx2.cell 9 rfl;have yf:=fun i=>bx2.free i
 have yl:=bx2.lt;have z0:=br2.cell 0 rfl;have z1:=br2.cell 1 rfl;have z2:=br2.cell 2 rfl;have z3:=br2.cell 3 rfl;have z4:=br2.cell 4 rfl;have z5:=br2.cell 5 rfl;have z6:=br2.cell 6 rfl;have z7:=br2.cell 7 rfl;have z8:=br2.cell 8 rfl;have z9:=br2.cell 9 rfl;have zf:=fun i=>br2.free i
 have zl:=br2.lt
 go_wp2_with fail
 obtain⟨bx9,hg9⟩:=br2.store10 (.int .i64 5) (.int .i64 0) (.int .i64 0) (.int .i64 0) (.int .i64 0) (.string ⟨#[]⟩) (.string ⟨#[]⟩) (.slice none 0 0) (.int .i64 0) (.int .i64 (-1));have hb9:=hb2.grown hg9 hb2.size (fun k hk=>by injection hk with hk;omega);clear y0 y1 y2 y3 y4 y5 y6 y7 y8 y9 yf yl z0 z1 z2 z3 z4 z5 z6 z7 z8 z9 zf zl;generalize World.setCell _ _ _=wz at *
 have y0:=bx9.cell 0 rfl;have y1:=bx9.cell 1 rfl;have y2:=bx9.cell 2 rfl;have y3:=bx9.cell 3 rfl;have y4:=bx9.cell 4 rfl;have y5:=bx9.cell 5 rfl;have y6:=bx9.cell 6 rfl;have y7:=bx9.cell 7 rfl;have y8:=bx9.cell 8 rfl;have y9:=bx9.cell 9 rfl;have yf:=fun i=>bx9.free i
 have yl:=bx9.lt;clear yf yl;refine bodyPost_ret (v:= .tuple #[.agg #[.int .i64 5,.int .i64 0,.int .i64 0,.int .i64 0,.int .i64 0,.string ⟨#[]⟩,.string ⟨#[]⟩,.slice none 0 0,.int .i64 0,.int .i64 (-1)],.bool true]) (by simp[results,Tryz.results218,go_sem,y0,y1,y2,y3,y4,y5,y6,y7,y8,y9]) rfl ?_;exact⟨rfl,hb9⟩
theorem afW(w:World):Calls Tryz.prog 218 #[.agg #[.int .i64 13,.int .i64 0,.int .i64 0,.int .i64 0,.int .i64 0,.string ⟨#[]⟩,.string ⟨#[]⟩,.slice none 0 0,.int .i64 0,.int .i64 (-1)],.int .u8 97,.string ⟨#[45,49]⟩] w fun e w'=>e = .returned (.tuple #[.agg #[.int .i64 13,.int .i64 0,.int .i64 (-1),.int .i64 0,.int .i64 0,.string ⟨#[]⟩,.string ⟨#[]⟩,.slice none 0 0,.int .i64 0,.int .i64 (-1)],.bool true])∧Below w.heap.size w w':=by
 have HN:=v9h (fun W=>kV W)
 go_enter Tryz.func218,Tryz.ntmps218
 go_upto_region 1 with fail
 generalize hW:World.alloc (World.alloc _ _) _=W1 at *
 have hb1:Below w.heap.size w W1:=by rw[←hW];exact(by repeat(first|assumption|exact v9r|apply zc|apply zd|apply zg|apply ze|apply zi))
 have bx:Box W1 w.heap.size [.int .i64 13,.int .i64 0,.int .i64 0,.int .i64 0,.int .i64 0,.string ⟨#[]⟩,.string ⟨#[]⟩,.slice none 0 0,.int .i64 0,.int .i64 (-1)] 59:=by rw[←hW];exact(Box.new _ _ _).alloc _
 have br:Box W1 (w.heap.size+1) [.int .i64 0,.int .i64 0,.int .i64 0,.int .i64 0,.int .i64 0,.string ⟨#[]⟩,.string ⟨#[]⟩,.slice none 0 0,.int .i64 0,.int .i64 0] 59:=by rw[←hW];exact Box.at (w:=w.alloc _) (by simp)
 clear hW;have q:=bx.cell 2 rfl;have ql:=bx.lt;have qf:=fun i=>bx.free i
 go_wp2_with fail
 refine(HN.out _).mono ?_;rintro e w1 ⟨rfl,rfl⟩
 go_upto_region 22 with fail
 have hb2:Below w.heap.size w (W1.setCell ⟨w.heap.size,2,none⟩ (.int .i64 (-1))):=hb1.grown (zq _ _ _ _) hb1.size (fun k hk=>by injection hk with hk;omega);have bx2:Box (W1.setCell ⟨w.heap.size,2,none⟩ (.int .i64 (-1))) w.heap.size [.int .i64 13,.int .i64 0,.int .i64 (-1),.int .i64 0,.int .i64 0,.string ⟨#[]⟩,.string ⟨#[]⟩,.slice none 0 0,.int .i64 0,.int .i64 (-1)] 59:=bx.set 2 (.int .i64 (-1));have br2:Box (W1.setCell ⟨w.heap.size,2,none⟩ (.int .i64 (-1))) (w.heap.size+1) [.int .i64 0,.int .i64 0,.int .i64 0,.int .i64 0,.int .i64 0,.string ⟨#[]⟩,.string ⟨#[]⟩,.slice none 0 0,.int .i64 0,.int .i64 0] 59:=br.setOther (by simp) _;generalize World.setCell _ _ _=W2 at *
 clear q ql qf bx br hb1;have y0:=bx2.cell 0 rfl;have y1:=bx2.cell 1 rfl;have y2:=bx2.cell 2 rfl;have y3:=bx2.cell 3 rfl;have y4:=bx2.cell 4 rfl;have y5:=bx2.cell 5 rfl;have y6:=bx2.cell 6 rfl;have y7:=bx2.cell 7 rfl;have y8:=bx2.cell 8 rfl;have y9:=bx2.cell 9 rfl;have yf:=fun i=>bx2.free i
 have yl:=bx2.lt;have z0:=br2.cell 0 rfl;have z1:=br2.cell 1 rfl;have z2:=br2.cell 2 rfl;have z3:=br2.cell 3 rfl;have z4:=br2.cell 4 rfl;have z5:=br2.cell 5 rfl;have z6:=br2.cell 6 rfl;have z7:=br2.cell 7 rfl;have z8:=br2.cell 8 rfl;have z9:=br2.cell 9 rfl;have zf:=fun i=>br2.free i
 have zl:=br2.lt
 go_wp2_with fail
 obtain⟨bx9,hg9⟩:=br2.store10 (.int .i64 13) (.int .i64 0) (.int .i64 (-1)) (.int .i64 0) (.int .i64 0) (.string ⟨#[]⟩) (.string ⟨#[]⟩) (.slice none 0 0) (.int .i64 0) (.int .i64 (-1));have hb9:=hb2.grown hg9 hb2.size (fun k hk=>by injection hk with hk;omega);clear y0 y1 y2 y3 y4 y5 y6 y7 y8 y9 yf yl z0 z1 z2 z3 z4 z5 z6 z7 z8 z9 zf zl;generalize World.setCell _ _ _=wz at *
 have y0:=bx9.cell 0 rfl;have y1:=bx9.cell 1 rfl;have y2:=bx9.cell 2 rfl;have y3:=bx9.cell 3 rfl;have y4:=bx9.cell 4 rfl;have y5:=bx9.cell 5 rfl;have y6:=bx9.cell 6 rfl;have y7:=bx9.cell 7 rfl;have y8:=bx9.cell 8 rfl;have y9:=bx9.cell 9 rfl;have yf:=fun i=>bx9.free i
 have yl:=bx9.lt;clear yf yl;refine bodyPost_ret (v:= .tuple #[.agg #[.int .i64 13,.int .i64 0,.int .i64 (-1),.int .i64 0,.int .i64 0,.string ⟨#[]⟩,.string ⟨#[]⟩,.slice none 0 0,.int .i64 0,.int .i64 (-1)],.bool true]) (by simp[results,Tryz.results218,go_sem,y0,y1,y2,y3,y4,y5,y6,y7,y8,y9]) rfl ?_;exact⟨rfl,hb9⟩
theorem aeR(w:World)(g c:Nat)(hc:3≤c)(hg:g<w.heap.size)(h0:w.cell? ⟨g,0,none⟩=some (.string ⟨#[45,49]⟩))(h1:w.cell? ⟨g,1,none⟩=some (.string ⟨#[105,110,112,117,116]⟩))(h2:w.cell? ⟨g,2,none⟩=some (.string ⟨#[48]⟩)) :
  Calls Tryz.prog 146 #[.slice (some ⟨g,0,none⟩) 3 c] w fun e w'=>e = .returned (.tuple #[.agg #[.int .i64 5,.int .i64 0,.int .i64 0,.int .i64 0,.int .i64 0,.string ⟨#[]⟩,.string ⟨#[]⟩,.slice none 0 0,.int .i64 0,.int .i64 (-1)],.bool true])∧Below w.heap.size w w':=by
 have HN:=v9h (fun W=>kV W)
 have HO:Hid (∀W,Calls Tryz.prog 217 #[.string ⟨#[105,110,112,117,116]⟩] W fun e w'=>e = .returned (.int .i64 5)∧Below W.heap.size W w'):=fun W=>by
  have:=aaZ ⟨#[105,110,112,117,116]⟩ W;rwa[show opG ⟨#[105,110,112,117,116]⟩ 17 0=5 by kernel_rfl] at this
 have HF:Hid (∀W,Calls Tryz.prog 173 #[.int .i64 5] W fun e w'=>e = .returned (.string ⟨#[100]⟩)∧Below W.heap.size W w'):=fun W=>by
  have:=xk 5 (by omega) W;have e:∀h:5<17,frRB[5]'h=⟨#[100]⟩:=fun _=>by kernel_rfl
  rw[e] at this;exact this
 have HH:Hid (∀W,Calls Tryz.prog 106 #[.int .i64 5,.int .u8 108] W fun e w'=>e = .returned (.bool false)∧Below W.heap.size W w'):=fun W=>by
  have:=xM 5 108 W;rwa[show hasR 5 108=false by kernel_rfl] at this
 have HFD:=v9h (fun W=>afV W);have HW:Hid (∀W,Below w.heap.size w W→g<W.heap.size∧W.cell? ⟨g,0,none⟩=some (.string ⟨#[45,49]⟩)∧W.cell? ⟨g,1,none⟩=some (.string ⟨#[105,110,112,117,116]⟩)∧W.cell? ⟨g,2,none⟩=some (.string ⟨#[48]⟩)):=fun W h=>⟨Nat.lt_of_lt_of_le hg h.size,keptC h0 hg h,keptC h1 hg h,keptC h2 hg h⟩
 clear h0 h1 h2 hg
 go_enter Tryz.func146,Tryz.ntmps146
 go_upto_region 2 with fail
 generalize hW:World.alloc (World.alloc _ _) _=W1 at *
 have hb1:Below w.heap.size w W1:=by rw[←hW];exact(by repeat(first|assumption|exact v9r|apply zc|apply zd|apply zg|apply ze|apply zi))
 have br:Box W1 w.heap.size [.int .i64 0,.int .i64 0,.int .i64 0,.int .i64 0,.int .i64 0,.string ⟨#[]⟩,.string ⟨#[]⟩,.slice none 0 0,.int .i64 0,.int .i64 0] 59:=by rw[←hW];exact(Box.new _ _ _).alloc _
 have bx:Box W1 (w.heap.size+1) [.int .i64 0,.int .i64 0,.int .i64 0,.int .i64 0,.int .i64 0,.string ⟨#[]⟩,.string ⟨#[]⟩,.slice none 0 0,.int .i64 0,.int .i64 0] 59:=by rw[←hW];exact Box.at (w:=w.alloc _) (by simp)
 clear hW;obtain⟨hg,h0,h1,h2⟩:=HW.out _ hb1;have q:=bx.cell 9 rfl;have ql:=bx.lt;have qf:=fun i=>bx.free i
 have hcI:(3:Int)≤(c:Int):=by omega
 go_wp2_with fail
 refine(HN.out _).mono ?_;rintro e w1 ⟨rfl,rfl⟩
 go_upto_region 6 with fail
 have hb2:Below w.heap.size w (W1.setCell ⟨w.heap.size+1,9,none⟩ (.int .i64 (-1))):=hb1.grown (zq _ _ _ _) hb1.size (fun k hk=>by injection hk with hk;omega);have bx2:Box (W1.setCell ⟨w.heap.size+1,9,none⟩ (.int .i64 (-1))) (w.heap.size+1) [.int .i64 0,.int .i64 0,.int .i64 0,.int .i64 0,.int .i64 0,.string ⟨#[]⟩,.string ⟨#[]⟩,.slice none 0 0,.int .i64 0,.int .i64 (-1)] 59:=bx.set 9 (.int .i64 (-1));have br2:Box (W1.setCell ⟨w.heap.size+1,9,none⟩ (.int .i64 (-1))) w.heap.size [.int .i64 0,.int .i64 0,.int .i64 0,.int .i64 0,.int .i64 0,.string ⟨#[]⟩,.string ⟨#[]⟩,.slice none 0 0,.int .i64 0,.int .i64 0] 59:=br.setOther (by simp) _;generalize World.setCell _ _ _=W2 at *
 clear q ql qf bx br hb1 hg h0 h1 h2;obtain⟨hg,h0,h1,h2⟩:=HW.out _ hb2
 go_wp2_with fail
 refine(HO.out _).mono ?_;rintro e W3 ⟨rfl,hb3⟩;replace hb3':=za hb2 hb3;replace bx3:=bx2.mono hb3;replace br3:=br2.mono hb3;clear hg h0 h1 h2 bx2 br2 hb2 hb3;have q:=bx3.cell 0 rfl;have ql:=bx3.lt;have qf:=fun i=>bx3.free i
 go_upto_region 7 with fail
 have hb4:Below w.heap.size w (W3.setCell ⟨w.heap.size+1,0,none⟩ (.int .i64 5)):=hb3'.grown (zq _ _ _ _) hb3'.size (fun k hk=>by injection hk with hk;omega);have bx4:Box (W3.setCell ⟨w.heap.size+1,0,none⟩ (.int .i64 5)) (w.heap.size+1) [.int .i64 5,.int .i64 0,.int .i64 0,.int .i64 0,.int .i64 0,.string ⟨#[]⟩,.string ⟨#[]⟩,.slice none 0 0,.int .i64 0,.int .i64 (-1)] 59:=bx3.set 0 (.int .i64 5);have br4:Box (W3.setCell ⟨w.heap.size+1,0,none⟩ (.int .i64 5)) w.heap.size [.int .i64 0,.int .i64 0,.int .i64 0,.int .i64 0,.int .i64 0,.string ⟨#[]⟩,.string ⟨#[]⟩,.slice none 0 0,.int .i64 0,.int .i64 0] 59:=br3.setOther (by simp) _;generalize World.setCell _ _ _=W4 at *
 clear q ql qf bx3 br3 hb3';have q:=bx4.cell 0 rfl;have ql:=bx4.lt
 go_wp2_with fail
 refine(HF.out _).mono ?_;rintro e W5 ⟨rfl,hb5⟩;replace hb5':=za hb4 hb5;replace bx5:=bx4.mono hb5;replace br5:=br4.mono hb5;clear q ql bx4 br4 hb4 hb5
 go_wp2_with fail
 refine wp_loop_rounds 2 ?_;rw[rounds_succ]
 go_upto_region 16 with fail
 obtain⟨hg,h0,h1,h2⟩:=HW.out _ (v9r);have y0:=bx5.cell 0 rfl;have y1:=bx5.cell 1 rfl;have y2:=bx5.cell 2 rfl;have y3:=bx5.cell 3 rfl;have y4:=bx5.cell 4 rfl;have y5:=bx5.cell 5 rfl;have y6:=bx5.cell 6 rfl;have y7:=bx5.cell 7 rfl;have y8:=bx5.cell 8 rfl;have y9:=bx5.cell 9 rfl;have yf:=fun i=>bx5.free i
 have yl:=bx5.lt;refine aac (w0:=w) 13 (by kernel_rfl) (by kernel_rfl) hb5'.drew ?_;have hb6:=hb5'.drew;have bx6:=bx5.drew;have br6:=br5.drew;clear y0 y1 y2 y3 y4 y5 y6 y7 y8 y9 yf yl hb5' bx5 br5;generalize W5.drew=W6 at *
 have y0:=bx6.cell 0 rfl;have y1:=bx6.cell 1 rfl;have y2:=bx6.cell 2 rfl;have y3:=bx6.cell 3 rfl;have y4:=bx6.cell 4 rfl;have y5:=bx6.cell 5 rfl;have y6:=bx6.cell 6 rfl;have y7:=bx6.cell 7 rfl;have y8:=bx6.cell 8 rfl;have y9:=bx6.cell 9 rfl;have yf:=fun i=>bx6.free i
 have yl:=bx6.lt;refine RZ.chunk (f:=7) [1,2,3,4,5,6] (by kernel_rfl) ?_
 ((simp only[zo,List.filterMap,List.getElem?_toArray,List.getElem?_cons_zero,List.getElem?_cons_succ]);(repeat(go_big_quiet_step (fail)));refine wpQuiet_nil ?_)
 refine RZ.single 0 rfl (by kernel_rfl) (by omega) ?_;intro K hK
 go_wp2_with fail
 refine hK _ _ hb6 ?_;clear hK;refine RZ.single 7 rfl (by kernel_rfl) (by omega) ?_;intro K hK;clear y0 y1 y2 y3 y4 y5 y6 y7 y8 y9 yf yl hg h0 h1 h2
 go_wp2_with fail
 refine(HFD.out _).mono ?_;rintro e W7 ⟨rfl,hb7⟩;have hb7':=za hb6 hb7;have bx7:=bx6.mono hb7;have br7:=br6.mono hb7;clear hb6 bx6 br6 hb7
 go_wp2_with fail
 refine hK _ _ hb7' ?_;clear hK;refine RZ.chunk (f:=2) [8,9,10] (by kernel_rfl) ?_
 ((simp only[zo,List.filterMap,List.getElem?_toArray,List.getElem?_cons_zero,List.getElem?_cons_succ]);(repeat(go_big_quiet_step (fail)));refine wpQuiet_nil ?_)
 have y0:=bx7.cell 0 rfl;have y1:=bx7.cell 1 rfl;have y2:=bx7.cell 2 rfl;have y3:=bx7.cell 3 rfl;have y4:=bx7.cell 4 rfl;have y5:=bx7.cell 5 rfl;have y6:=bx7.cell 6 rfl;have y7:=bx7.cell 7 rfl;have y8:=bx7.cell 8 rfl;have y9:=bx7.cell 9 rfl;have yf:=fun i=>bx7.free i
 have yl:=bx7.lt;obtain⟨bx8,hg8⟩:=bx7.store10 (.int .i64 5) (.int .i64 0) (.int .i64 0) (.int .i64 0) (.int .i64 0) (.string ⟨#[]⟩) (.string ⟨#[]⟩) (.slice none 0 0) (.int .i64 0) (.int .i64 (-1));have hb8:=hb7'.grown hg8 hb7'.size (fun k hk=>by injection hk with hk;omega);have br8:=br7.grown hg8 (by simp);refine RZ.single 11 rfl (by kernel_rfl) (by omega) ?_;intro K hK
 go_wp2_with fail
 refine hK _ _ hb8 ?_;clear hK;refine RZ.chunk (f:=0) [12] (by kernel_rfl) ?_
 ((simp only[zo,List.filterMap,List.getElem?_toArray,List.getElem?_cons_zero,List.getElem?_cons_succ]);(repeat(go_big_quiet_step (fail)));refine wpQuiet_nil ?_)
 (refine RZ.done (by kernel_rfl) (by kernel_rfl) ?_)
 clear y0 y1 y2 y3 y4 y5 y6 y7 y8 y9 yf yl bx7 br7 hb7' hg8;generalize World.setCell _ _ _=W8 at *
 have q:=bx8.cell 0 rfl;have ql:=bx8.lt
 go_wp2_with fail
 all_goals
  rw[rounds_succ]
  go_wp2_with fail
  refine(HH.out _).mono ?_;rintro e W9 ⟨rfl,hb9⟩;have hb9':=za hb8 hb9;have bx9:=bx8.mono hb9;have br9:=br8.mono hb9;clear q ql hb8 bx8 br8 hb9;have y0:=bx9.cell 0 rfl;have y1:=bx9.cell 1 rfl;have y2:=bx9.cell 2 rfl;have y3:=bx9.cell 3 rfl;have y4:=bx9.cell 4 rfl;have y5:=bx9.cell 5 rfl;have y6:=bx9.cell 6 rfl;have y7:=bx9.cell 7 rfl;have y8:=bx9.cell 8 rfl;have y9:=bx9.cell 9 rfl;have yf:=fun i=>bx9.free i
  have yl:=bx9.lt;have z0:=br9.cell 0 rfl;have z1:=br9.cell 1 rfl;have z2:=br9.cell 2 rfl;have z3:=br9.cell 3 rfl;have z4:=br9.cell 4 rfl;have z5:=br9.cell 5 rfl;have z6:=br9.cell 6 rfl;have z7:=br9.cell 7 rfl;have z8:=br9.cell 8 rfl;have z9:=br9.cell 9 rfl;have zf:=fun i=>br9.free i
  have zl:=br9.lt
  go_wp2_with fail
  obtain⟨bz,hgz⟩:=br9.store10 (.int .i64 5) (.int .i64 0) (.int .i64 0) (.int .i64 0) (.int .i64 0) (.string ⟨#[]⟩) (.string ⟨#[]⟩) (.slice none 0 0) (.int .i64 0) (.int .i64 (-1));have hbz:=hb9'.grown hgz hb9'.size (fun k hk=>by injection hk with hk;omega);clear y0 y1 y2 y3 y4 y5 y6 y7 y8 y9 yf yl z0 z1 z2 z3 z4 z5 z6 z7 z8 z9 zf zl;generalize World.setCell _ _ _=wz at *
  have y0:=bz.cell 0 rfl;have y1:=bz.cell 1 rfl;have y2:=bz.cell 2 rfl;have y3:=bz.cell 3 rfl;have y4:=bz.cell 4 rfl;have y5:=bz.cell 5 rfl;have y6:=bz.cell 6 rfl;have y7:=bz.cell 7 rfl;have y8:=bz.cell 8 rfl;have y9:=bz.cell 9 rfl;have yf:=fun i=>bz.free i
  have yl:=bz.lt;clear yf yl;refine bodyPost_ret (v:= .tuple #[.agg #[.int .i64 5,.int .i64 0,.int .i64 0,.int .i64 0,.int .i64 0,.string ⟨#[]⟩,.string ⟨#[]⟩,.slice none 0 0,.int .i64 0,.int .i64 (-1)],.bool true]) (by simp[results,Tryz.results146,go_sem,y0,y1,y2,y3,y4,y5,y6,y7,y8,y9]) rfl ?_;exact⟨rfl,hbz⟩
theorem aeS(w:World)(g c:Nat)(hc:3≤c)(hg:g<w.heap.size)(h0:w.cell? ⟨g,0,none⟩=some (.string ⟨#[45,49]⟩))(h1:w.cell? ⟨g,1,none⟩=some (.string ⟨#[114,101,116,117,114,110]⟩))(h2:w.cell? ⟨g,2,none⟩=some (.string ⟨#[45,49]⟩)) :
  Calls Tryz.prog 146 #[.slice (some ⟨g,0,none⟩) 3 c] w fun e w'=>e = .returned (.tuple #[.agg #[.int .i64 13,.int .i64 0,.int .i64 (-1),.int .i64 0,.int .i64 0,.string ⟨#[]⟩,.string ⟨#[]⟩,.slice none 0 0,.int .i64 0,.int .i64 (-1)],.bool true])∧Below w.heap.size w w':=by
 have HN:=v9h (fun W=>kV W)
 have HO:Hid (∀W,Calls Tryz.prog 217 #[.string ⟨#[114,101,116,117,114,110]⟩] W fun e w'=>e = .returned (.int .i64 13)∧Below W.heap.size W w'):=fun W=>by
  have:=aaZ ⟨#[114,101,116,117,114,110]⟩ W;rwa[show opG ⟨#[114,101,116,117,114,110]⟩ 17 0=13 by kernel_rfl] at this
 have HF:Hid (∀W,Calls Tryz.prog 173 #[.int .i64 13] W fun e w'=>e = .returned (.string ⟨#[97]⟩)∧Below W.heap.size W w'):=fun W=>by
  have:=xk 13 (by omega) W;have e:∀h:13<17,frRB[13]'h=⟨#[97]⟩:=fun _=>by kernel_rfl
  rw[e] at this;exact this
 have HH:Hid (∀W,Calls Tryz.prog 106 #[.int .i64 13,.int .u8 108] W fun e w'=>e = .returned (.bool false)∧Below W.heap.size W w'):=fun W=>by
  have:=xM 13 108 W;rwa[show hasR 13 108=false by kernel_rfl] at this
 have HFD:=v9h (fun W=>afW W);have HW:Hid (∀W,Below w.heap.size w W→g<W.heap.size∧W.cell? ⟨g,0,none⟩=some (.string ⟨#[45,49]⟩)∧W.cell? ⟨g,1,none⟩=some (.string ⟨#[114,101,116,117,114,110]⟩)∧W.cell? ⟨g,2,none⟩=some (.string ⟨#[45,49]⟩)):=fun W h=>⟨Nat.lt_of_lt_of_le hg h.size,keptC h0 hg h,keptC h1 hg h,keptC h2 hg h⟩
 clear h0 h1 h2 hg
 go_enter Tryz.func146,Tryz.ntmps146
 go_upto_region 2 with fail
 generalize hW:World.alloc (World.alloc _ _) _=W1 at *
 have hb1:Below w.heap.size w W1:=by rw[←hW];exact(by repeat(first|assumption|exact v9r|apply zc|apply zd|apply zg|apply ze|apply zi))
 have br:Box W1 w.heap.size [.int .i64 0,.int .i64 0,.int .i64 0,.int .i64 0,.int .i64 0,.string ⟨#[]⟩,.string ⟨#[]⟩,.slice none 0 0,.int .i64 0,.int .i64 0] 59:=by rw[←hW];exact(Box.new _ _ _).alloc _
 have bx:Box W1 (w.heap.size+1) [.int .i64 0,.int .i64 0,.int .i64 0,.int .i64 0,.int .i64 0,.string ⟨#[]⟩,.string ⟨#[]⟩,.slice none 0 0,.int .i64 0,.int .i64 0] 59:=by rw[←hW];exact Box.at (w:=w.alloc _) (by simp)
 clear hW;obtain⟨hg,h0,h1,h2⟩:=HW.out _ hb1;have q:=bx.cell 9 rfl;have ql:=bx.lt;have qf:=fun i=>bx.free i
 have hcI:(3:Int)≤(c:Int):=by omega
 go_wp2_with fail
 refine(HN.out _).mono ?_;rintro e w1 ⟨rfl,rfl⟩
 go_upto_region 6 with fail
 have hb2:Below w.heap.size w (W1.setCell ⟨w.heap.size+1,9,none⟩ (.int .i64 (-1))):=hb1.grown (zq _ _ _ _) hb1.size (fun k hk=>by injection hk with hk;omega);have bx2:Box (W1.setCell ⟨w.heap.size+1,9,none⟩ (.int .i64 (-1))) (w.heap.size+1) [.int .i64 0,.int .i64 0,.int .i64 0,.int .i64 0,.int .i64 0,.string ⟨#[]⟩,.string ⟨#[]⟩,.slice none 0 0,.int .i64 0,.int .i64 (-1)] 59:=bx.set 9 (.int .i64 (-1));have br2:Box (W1.setCell ⟨w.heap.size+1,9,none⟩ (.int .i64 (-1))) w.heap.size [.int .i64 0,.int .i64 0,.int .i64 0,.int .i64 0,.int .i64 0,.string ⟨#[]⟩,.string ⟨#[]⟩,.slice none 0 0,.int .i64 0,.int .i64 0] 59:=br.setOther (by simp) _;generalize World.setCell _ _ _=W2 at *
 clear q ql qf bx br hb1 hg h0 h1 h2;obtain⟨hg,h0,h1,h2⟩:=HW.out _ hb2
 go_wp2_with fail
 refine(HO.out _).mono ?_;rintro e W3 ⟨rfl,hb3⟩;replace hb3':=za hb2 hb3;replace bx3:=bx2.mono hb3;replace br3:=br2.mono hb3;clear hg h0 h1 h2 bx2 br2 hb2 hb3;have q:=bx3.cell 0 rfl;have ql:=bx3.lt;have qf:=fun i=>bx3.free i
 go_upto_region 7 with fail
 have hb4:Below w.heap.size w (W3.setCell ⟨w.heap.size+1,0,none⟩ (.int .i64 13)):=hb3'.grown (zq _ _ _ _) hb3'.size (fun k hk=>by injection hk with hk;omega);have bx4:Box (W3.setCell ⟨w.heap.size+1,0,none⟩ (.int .i64 13)) (w.heap.size+1) [.int .i64 13,.int .i64 0,.int .i64 0,.int .i64 0,.int .i64 0,.string ⟨#[]⟩,.string ⟨#[]⟩,.slice none 0 0,.int .i64 0,.int .i64 (-1)] 59:=bx3.set 0 (.int .i64 13);have br4:Box (W3.setCell ⟨w.heap.size+1,0,none⟩ (.int .i64 13)) w.heap.size [.int .i64 0,.int .i64 0,.int .i64 0,.int .i64 0,.int .i64 0,.string ⟨#[]⟩,.string ⟨#[]⟩,.slice none 0 0,.int .i64 0,.int .i64 0] 59:=br3.setOther (by simp) _;generalize World.setCell _ _ _=W4 at *
 clear q ql qf bx3 br3 hb3';have q:=bx4.cell 0 rfl;have ql:=bx4.lt
 go_wp2_with fail
 refine(HF.out _).mono ?_;rintro e W5 ⟨rfl,hb5⟩;replace hb5':=za hb4 hb5;replace bx5:=bx4.mono hb5;replace br5:=br4.mono hb5;clear q ql bx4 br4 hb4 hb5
 go_wp2_with fail
 refine wp_loop_rounds 2 ?_;rw[rounds_succ]
 go_upto_region 16 with fail
 obtain⟨hg,h0,h1,h2⟩:=HW.out _ (v9r);have y0:=bx5.cell 0 rfl;have y1:=bx5.cell 1 rfl;have y2:=bx5.cell 2 rfl;have y3:=bx5.cell 3 rfl;have y4:=bx5.cell 4 rfl;have y5:=bx5.cell 5 rfl;have y6:=bx5.cell 6 rfl;have y7:=bx5.cell 7 rfl;have y8:=bx5.cell 8 rfl;have y9:=bx5.cell 9 rfl;have yf:=fun i=>bx5.free i
 have yl:=bx5.lt;refine aac (w0:=w) 13 (by kernel_rfl) (by kernel_rfl) hb5'.drew ?_;have hb6:=hb5'.drew;have bx6:=bx5.drew;have br6:=br5.drew;clear y0 y1 y2 y3 y4 y5 y6 y7 y8 y9 yf yl hb5' bx5 br5;generalize W5.drew=W6 at *
 have y0:=bx6.cell 0 rfl;have y1:=bx6.cell 1 rfl;have y2:=bx6.cell 2 rfl;have y3:=bx6.cell 3 rfl;have y4:=bx6.cell 4 rfl;have y5:=bx6.cell 5 rfl;have y6:=bx6.cell 6 rfl;have y7:=bx6.cell 7 rfl;have y8:=bx6.cell 8 rfl;have y9:=bx6.cell 9 rfl;have yf:=fun i=>bx6.free i
 have yl:=bx6.lt;refine RZ.chunk (f:=7) [1,2,3,4,5,6] (by kernel_rfl) ?_
 ((simp only[zo,List.filterMap,List.getElem?_toArray,List.getElem?_cons_zero,List.getElem?_cons_succ]);(repeat(go_big_quiet_step (fail)));refine wpQuiet_nil ?_)
 refine RZ.single 0 rfl (by kernel_rfl) (by omega) ?_;intro K hK
 go_wp2_with fail
 refine hK _ _ hb6 ?_;clear hK;refine RZ.single 7 rfl (by kernel_rfl) (by omega) ?_;intro K hK;clear y0 y1 y2 y3 y4 y5 y6 y7 y8 y9 yf yl hg h0 h1 h2
 go_wp2_with fail
 refine(HFD.out _).mono ?_;rintro e W7 ⟨rfl,hb7⟩;have hb7':=za hb6 hb7;have bx7:=bx6.mono hb7;have br7:=br6.mono hb7;clear hb6 bx6 br6 hb7
 go_wp2_with fail
 refine hK _ _ hb7' ?_;clear hK;refine RZ.chunk (f:=2) [8,9,10] (by kernel_rfl) ?_
 ((simp only[zo,List.filterMap,List.getElem?_toArray,List.getElem?_cons_zero,List.getElem?_cons_succ]);(repeat(go_big_quiet_step (fail)));refine wpQuiet_nil ?_)
 have y0:=bx7.cell 0 rfl;have y1:=bx7.cell 1 rfl;have y2:=bx7.cell 2 rfl;have y3:=bx7.cell 3 rfl;have y4:=bx7.cell 4 rfl;have y5:=bx7.cell 5 rfl;have y6:=bx7.cell 6 rfl;have y7:=bx7.cell 7 rfl;have y8:=bx7.cell 8 rfl;have y9:=bx7.cell 9 rfl;have yf:=fun i=>bx7.free i
 have yl:=bx7.lt;obtain⟨bx8,hg8⟩:=bx7.store10 (.int .i64 13) (.int .i64 0) (.int .i64 (-1)) (.int .i64 0) (.int .i64 0) (.string ⟨#[]⟩) (.string ⟨#[]⟩) (.slice none 0 0) (.int .i64 0) (.int .i64 (-1));have hb8:=hb7'.grown hg8 hb7'.size (fun k hk=>by injection hk with hk;omega);have br8:=br7.grown hg8 (by simp);refine RZ.single 11 rfl (by kernel_rfl) (by omega) ?_;intro K hK
 go_wp2_with fail
 refine hK _ _ hb8 ?_;clear hK;refine RZ.chunk (f:=0) [12] (by kernel_rfl) ?_
 ((simp only[zo,List.filterMap,List.getElem?_toArray,List.getElem?_cons_zero,List.getElem?_cons_succ]);(repeat(go_big_quiet_step (fail)));refine wpQuiet_nil ?_)
 (refine RZ.done (by kernel_rfl) (by kernel_rfl) ?_)
 clear y0 y1 y2 y3 y4 y5 y6 y7 y8 y9 yf yl bx7 br7 hb7' hg8;generalize World.setCell _ _ _=W8 at *
 have q:=bx8.cell 0 rfl;have ql:=bx8.lt
 go_wp2_with fail
 all_goals
  rw[rounds_succ]
  go_wp2_with fail
  refine(HH.out _).mono ?_;rintro e W9 ⟨rfl,hb9⟩;have hb9':=za hb8 hb9;have bx9:=bx8.mono hb9;have br9:=br8.mono hb9;clear q ql hb8 bx8 br8 hb9;have y0:=bx9.cell 0 rfl;have y1:=bx9.cell 1 rfl;have y2:=bx9.cell 2 rfl;have y3:=bx9.cell 3 rfl;have y4:=bx9.cell 4 rfl;have y5:=bx9.cell 5 rfl;have y6:=bx9.cell 6 rfl;have y7:=bx9.cell 7 rfl;have y8:=bx9.cell 8 rfl;have y9:=bx9.cell 9 rfl;have yf:=fun i=>bx9.free i
  have yl:=bx9.lt;have z0:=br9.cell 0 rfl;have z1:=br9.cell 1 rfl;have z2:=br9.cell 2 rfl;have z3:=br9.cell 3 rfl;have z4:=br9.cell 4 rfl;have z5:=br9.cell 5 rfl;have z6:=br9.cell 6 rfl;have z7:=br9.cell 7 rfl;have z8:=br9.cell 8 rfl;have z9:=br9.cell 9 rfl;have zf:=fun i=>br9.free i
  have zl:=br9.lt
  go_wp2_with fail
  obtain⟨bz,hgz⟩:=br9.store10 (.int .i64 13) (.int .i64 0) (.int .i64 (-1)) (.int .i64 0) (.int .i64 0) (.string ⟨#[]⟩) (.string ⟨#[]⟩) (.slice none 0 0) (.int .i64 0) (.int .i64 (-1));have hbz:=hb9'.grown hgz hb9'.size (fun k hk=>by injection hk with hk;omega);clear y0 y1 y2 y3 y4 y5 y6 y7 y8 y9 yf yl z0 z1 z2 z3 z4 z5 z6 z7 z8 z9 zf zl;generalize World.setCell _ _ _=wz at *
  have y0:=bz.cell 0 rfl;have y1:=bz.cell 1 rfl;have y2:=bz.cell 2 rfl;have y3:=bz.cell 3 rfl;have y4:=bz.cell 4 rfl;have y5:=bz.cell 5 rfl;have y6:=bz.cell 6 rfl;have y7:=bz.cell 7 rfl;have y8:=bz.cell 8 rfl;have y9:=bz.cell 9 rfl;have yf:=fun i=>bz.free i
  have yl:=bz.lt;clear yf yl;refine bodyPost_ret (v:= .tuple #[.agg #[.int .i64 13,.int .i64 0,.int .i64 (-1),.int .i64 0,.int .i64 0,.string ⟨#[]⟩,.string ⟨#[]⟩,.slice none 0 0,.int .i64 0,.int .i64 (-1)],.bool true]) (by simp[results,Tryz.results146,go_sem,y0,y1,y2,y3,y4,y5,y6,y7,y8,y9]) rfl ?_;exact⟨rfl,hbz⟩
end Go.Proofs.YtmhdambkchlilaaGreatDoor
