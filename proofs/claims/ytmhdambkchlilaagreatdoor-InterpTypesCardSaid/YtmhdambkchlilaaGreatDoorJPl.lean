/- Chapters 10, 12: plain laws that the answer's check of a unit leans on. Chapter 12: the answer's fields, uses, ranges and control, as the plain functions of the program's check (plain). Chapters 12, 13: Find (the program's and the answer's), in any unit; for seats without the reading of texts. Chapter 10: the subclasses of a class in any hierarchy (plain). Chapter 42: the functions that a rule means (plain). -/
import Derived.Test.YtmhdambkchlilaaGreatDoorJUs
import Derived.Test.YtmhdambkchlilaaGreatDoorJGk
import Derived.Test.YtmhdambkchlilaaGreatDoorJGt
import Derived.Test.YtmhdambkchlilaaGreatDoorJGc
import Derived.Test.YtmhdambkchlilaaGreatDoorJGg
import Derived.Test.YtmhdambkchlilaaGreatDoorJGb
namespace Go.Proofs.YtmhdambkchlilaaGreatDoor
open Go.RowKit
set_option linter.unusedVariables false
set_option maxHeartbeats 1000000
theorem ah0{cs:List Cls}(h:∀c∈cs,zC c.name=true){s:ByteArray}(hs:zC s=false):¬0≤fnd cs s:=fun h0=>by
 obtain⟨c,hc,rfl⟩:=acI h0;rw[h c hc] at hs
 cases hs
def intB:ByteArray:=⟨#[105,110,116]⟩
def adn:ByteArray:=⟨#[110,117,108,108]⟩
theorem ajb:intB.toList=wInt:=by rw[ByteArray.toList_eq];rfl
theorem aio:adn.toList=jW:=by rw[ByteArray.toList_eq];rfl
theorem agv:zC intB=false:=by kernel_rfl
theorem afI:zC adn=false:=by kernel_rfl
structure NoKw(cs:List Cls):Prop where
 i:¬0≤fnd cs intB
 n:¬0≤fnd cs adn
theorem NoKw.of{cs:List Cls}(h:(yn cs).2=0):NoKw cs:=by
 have hn:∀c∈cs,zC c.name=true:=fun c hc=>by
  obtain⟨i,hi,rfl⟩:=List.getElem_of_mem hc;exact(ae3 ((qp h).2 i hi)).name
 exact⟨ah0 hn agv,ah0 hn afI⟩
theorem jY{s t:ByteArray}:(s.toList==t.toList)=true↔s=t:=zO
theorem kJ{s:ByteArray}:zu s=true↔s=intB:=by
 unfold zu;rw[←ajb];exact zO
theorem abH{s:ByteArray}:(s.toList==jW)=true↔s=adn:=by
 rw[←aio];exact zO
theorem acL{cs:List Cls}(h:NoKw cs)(s:ByteArray):zW cs s=decide (0≤fnd cs s):=by
 unfold zW
 cases hi:zu s with
 |false=>rfl
 |true=>
  obtain rfl:=kJ.1 hi;rw[decide_eq_false h.i]
  rfl
def aaC(cs:List Cls)(p q:ByteArray):Bool:=p.toList==q.toList||if p.toList==jW then !zu q else decide (0≤fnd cs p)&&(decide (0≤fnd cs q)&&hasS (zx cs p) q)
theorem ahn{cs:List Cls}(h:NoKw cs)(p q:ByteArray):aaC cs p q=zB cs p q:=by
 unfold aaC zB;rw[acL h,acL h]
 cases hp:(p.toList==jW) with
 |false=>simp[Bool.and_assoc]
 |true=>
  obtain rfl:=abH.1 hp;rw[decide_eq_false h.n]
  simp
theorem aho{cs:List Cls}{i:Int}(h0:0≤i)(h1:i<cs.length):∃t,(chR cs i).1=i::t:=by
 unfold chR;obtain⟨n,hn⟩:∃n,cs.length=n+1:=⟨cs.length-1,by omega⟩
 rw[hn,qe ⟨h0,by simp⟩];exact aa7 n _ _
theorem aip{cs:List Cls}{m:ByteArray}{j:Int}{x:Cls}(h:cs[j.toNat]? = some x):mIdx cs m j=idxI (isSg m) x.methods:=by
 unfold mIdx;rw[h]
theorem acM{cs:List Cls}{m:ByteArray}:∀{l:List Int},(lookL cs m l=(-1,-1))∨(∃j∈l,lookL cs m l=(j,mIdx cs m j)∧0≤mIdx cs m j)
 |[]=>Or.inl rfl
 |j::r=>by
  unfold lookL
  by_cases h:0≤mIdx cs m j
  ·rw[if_pos h];exact Or.inr ⟨j,by simp,rfl,h⟩
  ·rw[if_neg h]
   rcases acM (l:=r) with h1|⟨i,hi,h1,h2⟩
   ·exact Or.inl h1
   ·exact Or.inr ⟨i,by simp[hi],h1,h2⟩
theorem afJ(cs:List Cls)(x:Ins):qv cs x=(sgAt cs (zU cs x.cls x.name)).bind fun g=>if nmAt cs (zU cs x.cls x.name).1=x.cls∧g.static=true then some g else none:=by
 obtain⟨f0,f1⟩:=yb cs x.cls;unfold qv
 by_cases hf:fnd cs x.cls<0
 ·rw[if_pos hf]
  have h1:zU cs x.cls x.name=(-1,-1):=by
   unfold zU aaB chR;rw[yF (fun h=>by omega)]
   rfl
  rw[h1]
  rfl
 rw[if_neg hf];obtain⟨t,ht⟩:=aho (cs:=cs) (i:=fnd cs x.cls) (by omega) (by omega);have hj:(fnd cs x.cls).toNat<cs.length:=by omega
 rw[List.getElem?_eq_getElem hj];simp only;have hm:=aip (m:=x.name) (List.getElem?_eq_getElem hj);have hnm:nmAt cs (fnd cs x.cls)=x.cls:=xv (by omega)
 by_cases h0:idxI (isSg x.name) cs[(fnd cs x.cls).toNat].methods<0
 ·rw[if_pos h0]
  symm
  have hfix:=ab5 cs x.cls
  have hl:zU cs x.cls x.name=lookL cs x.name t:=by
   show lookL cs x.name (chR cs (fnd cs x.cls)).1=_;rw[ht,lookL,if_neg (by rw[hm];omega)]
  rcases acM (cs:=cs) (m:=x.name) (l:=t) with h1|⟨j,hjt,h1,h2⟩
  ·rw[hl,h1];rfl
  ·rw[hl,h1]
   have hne:¬nmAt cs j=x.cls:=fun e=>by
    have h3:=hfix j (by rw[ht];simp[hjt]);rw[e] at h3;rw[←h3,hm] at h2
    omega
   cases sgAt cs (j,mIdx cs x.name j) with
   |none=>rfl
   |some g=>simp[hne]
 ·rw[if_neg h0]
  have hl:zU cs x.cls x.name=(fnd cs x.cls,idxI (isSg x.name) cs[(fnd cs x.cls).toNat].methods):=by
   show lookL cs x.name (chR cs (fnd cs x.cls)).1=_;rw[ht,lookL,if_pos (by rw[hm];omega),hm]
  rw[hl]
  have hs:sgAt cs (fnd cs x.cls,idxI (isSg x.name) cs[(fnd cs x.cls).toNat].methods)=cs[(fnd cs x.cls).toNat].methods[(idxI (isSg x.name) cs[(fnd cs x.cls).toNat].methods).toNat]?:=by
   unfold sgAt;rw[if_neg (by show ¬fnd cs x.cls<0;omega)];simp only;rw[List.getElem?_eq_getElem hj]
   rfl
  rw[hs]
  cases cs[(fnd cs x.cls).toNat].methods[(idxI (isSg x.name) cs[(fnd cs x.cls).toNat].methods).toNat]? with
  |none=>rfl
  |some g=>simp[hnm]
def xx:List (List UInt8):=[[],[100,110],[100],[100,97],[100,97,111,98],[100],[100,99],[100,97,109],[97,109,98],[100,97,99,109,108],[100,99,109,108],[97,103],[103],[97],[97],[100,99],[100,97,110]]
def hasR(op:Int)(c:UInt8):Bool:=zH op&&((xx[op.toNat]?).getD []).any fun s=>s==c||c==110&&s==111
theorem kA{op:Int}(h:zH op=true):∃k:Nat,op=k∧k<17:=by
 unfold zH at h;simp only[Bool.and_eq_true,decide_eq_true_eq] at h;exact⟨op.toNat,by omega,by omega⟩
theorem afK:∀k,k<17→∀c∈[(100:UInt8),97,98,99,109,103],((xx[k]?).getD []).any (fun s=>s==c||c==110&&s==111)=((kH[k]?).getD []).contains c:=by decide
theorem ahp:∀k,k<17→((xx[k]?).getD []).any (fun s=>s==110||(110:UInt8)==110&&s==111)=(((kH[k]?).getD []).contains 110||((kH[k]?).getD []).contains 111):=by decide
theorem ahq:∀k,k<17→((xx[k]?).getD []).any (fun s=>s==108||(108:UInt8)==110&&s==111)=((kH[k]?).getD []).contains 42:=by decide
theorem adZ{k:Nat}(hk:k<17)(c:Int):zp (k:Int) c=((kH[k]?).getD []).contains c.toNat.toUInt8:=by
 unfold zp zH abv;rw[decide_eq_true (show(0:Int)≤k by omega),decide_eq_true (show(k:Int)<17 by omega),Int.toNat_natCast]
 rfl
theorem ae4{k:Nat}(hk:k<17)(c:UInt8):hasR (k:Int) c=((xx[k]?).getD []).any fun s=>s==c||c==110&&s==111:=by
 unfold hasR zH;rw[decide_eq_true (show(0:Int)≤k by omega),decide_eq_true (show(k:Int)<17 by omega),Int.toNat_natCast]
 rfl
theorem ae5{op:Int}(h:zH op=false)(c:UInt8):hasR op c=false:=by unfold hasR;rw[h];rfl
theorem ad0{op:Int}(h:zH op=false)(c:Int):zp op c=false:=by unfold zp;rw[h];rfl
theorem zX(op:Int):hasR op 100=zp op 100∧hasR op 97=zp op 97∧hasR op 98=zp op 98∧hasR op 99=zp op 99∧hasR op 109=zp op 109∧hasR op 103=zp op 103∧hasR op 110=(zp op 110||zp op 111)∧hasR op 108=zp op 42:=by
 cases hk:zH op with
 |false=>simp[ae5 hk,ad0 hk]
 |true=>
  obtain⟨k,rfl,hl⟩:=kA hk;simp only[ae4 hl,adZ hl];have h:=afK k hl;exact⟨h 100 (by simp),h 97 (by simp),h 98 (by simp),h 99 (by simp),h 109 (by simp),h 103 (by simp),ahp k hl,ahq k hl⟩
theorem agw(op:Int):zp op 42=(decide (op=9)||decide (op=10)):=by
 cases hk:zH op with
 |false=>
  rw[ad0 hk];unfold zH at hk;have h9:¬op=9:=fun e=>by subst e;cases hk
  have h10:¬op=10:=fun e=>by subst e;cases hk
  rw[decide_eq_false h9,decide_eq_false h10]
  rfl
 |true=>
  obtain⟨k,rfl,hl⟩:=kA hk;rw[adZ hl];have:∀k:Nat,k<17→((kH[k]?).getD []).contains (42:Int).toNat.toUInt8=(decide ((k:Int)=9)||decide ((k:Int)=10)):=by decide
  exact this k hl
def yx(x:Ins):List Int:=(if zp x.op 97=true∧(¬x.op=13∨¬x.a = -1) then [x.a] else [])++(if zp x.op 98=true then [x.b] else [])++(if zp x.op 42=true then x.args else [])
def hndR(code:List Ins)(z:Int):Bool:=decide (z = -1)||decide (0≤z)&&(decide (z<(code.length:Int))&&zL code z)
theorem aiq(code:List Ins)(z:Int):hndR code z=(decide (z = -1)||zL code z):=by
 unfold hndR
 by_cases h0:0≤z
 ·by_cases h1:z<(code.length:Int)
  ·rw[decide_eq_true h0,decide_eq_true h1];simp
  ·rw[kv (fun h=>h1 h.2)];simp
 ·rw[kv (fun h=>h0 h.1)];simp
def jc(n:Nat)(code:List Ins)(x:Ins):Bool:=
 !(zp x.op 100 && !varB n x.dst&&(!(decide (x.op=9)||decide (x.op=10))||decide (¬x.dst = -1)))&&((yx x).all (varB n)&&(!(zp x.op 103&&(decide (x.jmp<0)||decide ((code.length:Int)≤x.jmp)))&&hndR code x.hnd))
theorem abI{n:Nat}{code:List Ins}{x:Ins}(hz:zE x=true):jc n code x=yL n code x:=by
 have ha:zp x.op 42=false→x.args=[]:=fun h=>by
  unfold zE at hz;rw[h] at hz;simp only[Bool.and_eq_true,Bool.false_or] at hz;have:=eq_of_beq hz.1.2;exact List.length_eq_zero_iff.1 (by omega)
 unfold jc yL;rw[aiq,←agw];unfold yx;rw[List.all_append,List.all_append]
 have e1:(if zp x.op 97=true∧(¬x.op=13∨¬x.a = -1) then [x.a] else []).all (varB n) = !(zp x.op 97 && !varB n x.a&&(decide (x.op≠13)||decide (x.a≠ -1))):=by
  cases h1:zp x.op 97 with
  |false=>simp
  |true=>
   by_cases h2:¬x.op=13∨¬x.a = -1
   ·rw[if_pos ⟨rfl,h2⟩]
    have:(decide (x.op≠13)||decide (x.a≠ -1))=true:=by rcases h2 with h|h<;>simp[h]
    rw[this]
    simp
   ·rw[if_neg (fun h=>h2 h.2)]
    have:(decide (x.op≠13)||decide (x.a≠ -1))=false:=by
     have h3:x.op=13:=Classical.byContradiction fun h=>h2 (Or.inl h)
     have h4:x.a = -1:=Classical.byContradiction fun h=>h2 (Or.inr h)
     simp[h3,h4]
    rw[this]
    simp
 have e2:(if zp x.op 98=true then [x.b] else []).all (varB n) = !(zp x.op 98 && !varB n x.b):=by
  cases h1:zp x.op 98 with
  |false=>simp
  |true=>simp
 have e3:(if zp x.op 42=true then x.args else []).all (varB n)=x.args.all (varB n):=by
  cases h1:zp x.op 42 with
  |false=>rw[ha h1];simp
  |true=>simp
 rw[e1,e2,e3]
 simp[Bool.and_assoc]
def jN(code:List Ins)(i:Nat)(x:Ins):Bool:=
 !(decide (x.op=12)||(decide (x.op=13)||decide (x.op=14)))&&(decide ((i:Int)+1=code.length)||zL code ((i:Int)+1))||(zp x.op 103&&zL code x.jmp||decide (i=0)&&decide (x.op=15))
theorem afL(code:List Ins)(i:Nat)(x:Ins):jN code i x = !ctlB code i x:=by
 unfold jN ctlB
 have e1:decide ((i:Int)+1=code.length)=decide ((i:Int)=code.length-1):=by
  by_cases h:(i:Int)+1=code.length
  ·rw[decide_eq_true h,decide_eq_true (by omega)]
  ·rw[decide_eq_false h,decide_eq_false (by omega)]
 have e2:decide (0<i) = !decide (i=0):=by
  by_cases h:i=0
  ·simp[h]
  ·rw[decide_eq_false h,decide_eq_true (by omega)];rfl
 rw[e1,e2];have e3:decide (x.op≠15) = !decide (x.op=15):=by by_cases h:x.op=15<;>simp[h]
 rw[e3];generalize decide (x.op=12)=a;generalize decide (x.op=13)=b;generalize decide (x.op=14)=c;generalize decide ((i:Int)=code.length-1)=d;generalize zL code ((i:Int)+1)=e;generalize zp x.op 103=f;generalize zL code x.jmp=g;generalize decide (i=0)=h;generalize decide (x.op=15)=j
 revert a b c d e f g h j
 decide
def natR(l:List UInt8):Bool:=l.all (fun x=>decide (48≤x.toNat)&&decide (x.toNat≤57))&&(decide (l.length=1)||decide (1<l.length) && !(l.headD 0==48))
theorem air(l:List UInt8):natR l=natL l:=by
 cases l with
 |nil=>rfl
 |cons c r=>
  unfold natR natL
  cases r with
  |nil=>simp
  |cons d t=>
   simp only[List.length_cons,List.headD_cons,List.isEmpty_cons,Bool.not_false,Bool.and_true];rw[decide_eq_false (show ¬t.length+1+1=1 by omega),decide_eq_true (show 1<t.length+1+1 by omega),Bool.false_or,Bool.true_and,Bool.and_comm]
def qb(c m:ByteArray)(f:Fun):Bool:=f.cls.toList==c.toList&&f.name.toList==m.toList
def qE(fs:List Fun)(c m:ByteArray):Int:=idxI (qb c m) fs
theorem agx(B1 B2:Nat)(x:Fun)(A4 A6:Option Addr)(c4 c6:Nat)(s t:ByteArray)(w:World)(h1:B1<w.heap.size)(h2:B2<w.heap.size)(d1:w.cell? ⟨B1,0,none⟩=some (.string s))(d2:w.cell? ⟨B2,0,none⟩=some (.string t)) :
  Calls Tryz.prog 81 #[.agg #[.string x.cls,.string x.name,.bool x.static,.int .i64 x.nparams,.slice A4 x.vars.length c4,.string x.result,.slice A6 x.code.length c6],.pointer (some ⟨B1,0,none⟩),.pointer (some ⟨B2,0,none⟩)] w fun e w'=>e = .returned (.bool (qb s t x))∧Below w.heap.size w w':=by
 have HF:Hid (qb s t x=(x.cls.toList==s.toList&&x.name.toList==t.toList)):=rfl;rw[HF.out]
 cases hq:(x.cls.toList==s.toList) with
 |true=>
  go_enter Tryz.func81,Tryz.ntmps81
  go_wp2_with fail
  go_ret
  exact⟨by rw[Bool.true_and];rfl,zc (v9r)⟩
 |false=>
  go_enter Tryz.func81,Tryz.ntmps81
  go_wp2_with fail
  go_ret
  exact⟨by rw[Bool.false_and];rfl,zc (v9r)⟩
theorem agy(A:Option Addr)(c B1 B2:Nat)(l:List Fun)(s t:ByteArray)(w:World)(hl:l.length≤9223372036854775807)(hs:Sl Lay.fun w A l)(h1:B1<w.heap.size)(h2:B2<w.heap.size)(d1:w.cell? ⟨B1,0,none⟩=some (.string s))(d2:w.cell? ⟨B2,0,none⟩=some (.string t)) :
  Calls Tryz.prog 80 #[.slice A l.length c,.func (.func 81) #[] #[.pointer (some ⟨B1,0,none⟩),.pointer (some ⟨B2,0,none⟩)]] w fun e w'=>e = .returned (.int .i64 (qE l s t))∧Below w.heap.size w w':=by
 have HFU:Hid (qE l s t=idxI (qb s t) l):=rfl;rw[HFU.out]
 go_enter Tryz.func80,Tryz.ntmps80
 go_wp2_with fail
 go_loopw [5,8] (fun j i wr=>∃k:Nat,k≤l.length∧i = .int .i64 k∧Hid (∀i (hi:i<k) (hi2:i<l.length),qb s t l[i]=false)∧Below w.heap.size w wr) (fun _ i _=>l.length-(intOf i).toNat)
 case atStart=>exact⟨0,Nat.zero_le _,rfl,fun i hi=>by omega,v9r⟩
 case round=>
  obtain⟨k,hk,rfl,HN,hbw⟩:=hrel
  by_cases hlt:k<l.length
  ·obtain⟨b,o,A4,c4,A6,c6,rfl,hb,e0,e1,e2,e3,e4,e5,e6,hc4,hs4,hc6,hs6⟩:=(hs.mono hbw).fun_at hlt
   go_wp2_with fail
   refine(agx B1 B2 l[k] A4 A6 c4 c6 s t _ (Nat.lt_of_lt_of_le h1 hbw.size) (Nat.lt_of_lt_of_le h2 hbw.size) (by rw[hbw.cell h1];exact d1) (by rw[hbw.cell h2];exact d2)).mono ?_;rintro e w1 ⟨rfl,hb1⟩
   cases hq:qb s t l[k] with
   |true=>
    have HE:=v9h (qY hlt (fun i hi=>HN.out i hi (by omega)) hq);clear hq
    go_wp2_with fail
    go_ret
    exact⟨by rw[HE.out];rfl,za hbw hb1⟩
   |false=>
    have HE:Hid (∀i (hi:i<k+1) (hi2:i<l.length),qb s t l[i]=false):=fun i hi hi2=>by
     by_cases e:i=k
     ·subst e;exact hq
     ·exact HN.out i (by omega) hi2
    clear hq
    go_wp2_with fail
    go_roundw
    case rel=>exact⟨k+1,by omega,by go_num,HE,za hbw hb1⟩
    case measure=>simp[intOf];omega
  ·have HE:=v9h (qC (p:=qb s t) (l:=l) (fun i hi=>HN.out i (by omega) hi))
   go_wp2_with fail
   go_ret
   exact⟨by rw[HE.out];rfl,hbw⟩
theorem abJ(A0 A:Option Addr)(n0 c0 c:Nat)(mn:Int)(l:List Fun)(s t:ByteArray)(w:World)(hl:l.length≤9223372036854775807)(hs:Sl Lay.fun w A l) :
  Calls Tryz.prog 39 #[.agg #[.slice A0 n0 c0,.slice A l.length c,.int .i64 mn],.string s,.string t] w fun e w'=>e = .returned (.int .i64 (qE l s t))∧Below w.heap.size w w':=by
 have hb0:Below w.heap.size w (((w.alloc (.cells #[.slice A0 n0 c0,.slice A l.length c,.int .i64 mn] 32)).alloc (.cells #[.string s] 9)).alloc (.cells #[.string t] 9)):=(by repeat(first|assumption|exact v9r|apply zc|apply zd|apply zg|apply ze|apply zi))
 have b1:Box (((w.alloc (.cells #[.slice A0 n0 c0,.slice A l.length c,.int .i64 mn] 32)).alloc (.cells #[.string s] 9)).alloc (.cells #[.string t] 9)) (w.heap.size+1) [.string s] 9:=(Box.at (by simp)).alloc _;have b2:Box (((w.alloc (.cells #[.slice A0 n0 c0,.slice A l.length c,.int .i64 mn] 32)).alloc (.cells #[.string s] 9)).alloc (.cells #[.string t] 9)) (w.heap.size+2) [.string t] 9:=Box.at (by simp);have HC:=v9h (agy A c (w.heap.size+1) (w.heap.size+2) l s t _ hl (hs.mono hb0) b1.lt b2.lt (b1.cell 0 rfl) (b2.cell 0 rfl))
 go_enter Tryz.func39,Tryz.ntmps39
 go_wp2_with fail
 refine HC.out.mono ?_;rintro e w1 ⟨rfl,hb1⟩
 go_wp2_with fail
 go_ret
 exact⟨rfl,za hb0 hb1⟩
theorem aeI(A0 A:Option Addr)(n0 c0 c:Nat)(mn:Int)(l:List Fun)(s t:ByteArray)(w:World)(hl:l.length≤9223372036854775807)(hs:Sl Lay.fun w A l) :
  Calls Tryz.prog 82 #[.agg #[.slice A0 n0 c0,.slice A l.length c,.int .i64 mn],.string s,.string t] w fun e w'=>e = .returned (.int .i64 (qE l s t))∧Below w.heap.size w w':=by
 have HFU:Hid (qE l s t=idxI (qb s t) l):=rfl;rw[HFU.out]
 go_enter Tryz.func82,Tryz.ntmps82
 go_wp2_with fail
 have b1:Box (w.alloc (.cells #[.slice A0 n0 c0,.slice A l.length c,.int .i64 mn] 32)) w.heap.size [.slice A0 n0 c0,.slice A l.length c,.int .i64 mn] 32:=Box.at (by simp);have hbW:Below w.heap.size w (w.alloc (.cells #[.slice A0 n0 c0,.slice A l.length c,.int .i64 mn] 32)):=(by repeat(first|assumption|exact v9r|apply zc|apply zd|apply zg|apply ze|apply zi))
 generalize World.alloc w _=W1 at *
 go_loopw [7] (fun i wr=>∃k:Nat,k≤l.length∧i = .int .i64 k∧Hid (∀i (hi:i<k) (hi2:i<l.length),qb s t l[i]=false)∧Below W1.heap.size W1 wr) (fun i _=>l.length-(intOf i).toNat)
 case atStart=>exact⟨0,Nat.zero_le _,rfl,fun i hi=>by omega,v9r⟩
 case round=>
  obtain⟨k,hk,rfl,HN,hbw⟩:=hrel;have bz:=b1.mono hbw;have y0:=bz.cell 0 rfl;have y1:=bz.cell 1 rfl;have y2:=bz.cell 2 rfl;have yl:=bz.lt;have hbf:=za hbW hbw
  by_cases hlt:k<l.length
  ·obtain⟨b,o,A4,c4,A6,c6,rfl,hb,e0,e1,e2,e3,e4,e5,e6,hc4,hs4,hc6,hs6⟩:=(hs.mono hbf).fun_at hlt
   have hki:(k:Int)<l.length:=by omega
   cases q1:(l[k].cls.toList==s.toList) with
   |false=>
    have HE:Hid (∀i (hi:i<k+1) (hi2:i<l.length),qb s t l[i]=false):=fun i hi hi2=>by
     by_cases e:i=k
     ·subst e;unfold qb;rw[q1];rfl
     ·exact HN.out i (by omega) hi2
    go_wp2_with fail
    go_roundw
    case rel=>exact⟨k+1,by omega,by go_num,HE,hbw⟩
    case measure=>simp[intOf];omega
   |true=>
    cases q2:(l[k].name.toList==t.toList) with
    |false=>
     have HE:Hid (∀i (hi:i<k+1) (hi2:i<l.length),qb s t l[i]=false):=fun i hi hi2=>by
      by_cases e:i=k
      ·subst e;unfold qb;rw[q1,q2];rfl
      ·exact HN.out i (by omega) hi2
     go_wp2_with fail
     go_roundw
     case rel=>exact⟨k+1,by omega,by go_num,HE,hbw⟩
     case measure=>simp[intOf];omega
    |true=>
     have HE:=v9h (qY hlt (fun i hi=>HN.out i hi (by omega)) (show qb s t l[k]=true by unfold qb;rw[q1,q2];rfl))
     go_wp2_with fail
     go_ret
     exact⟨by rw[HE.out];rfl,hbf⟩
  ·have HE:=v9h (qC (p:=qb s t) (l:=l) (fun i hi=>HN.out i (by omega) hi))
   go_wp2_with fail
   go_ret
   exact⟨by rw[HE.out];rfl,hbf⟩
theorem ade(A0 A:Option Addr)(n0 c0 c:Nat)(mn:Int)(l:List Fun)(s t:ByteArray)(w:World)(hl:l.length≤9223372036854775807)(hs:Sl Lay.fun w A l) :
  Calls Tryz.prog 40 #[.agg #[.slice A0 n0 c0,.slice A l.length c,.int .i64 mn],.string s,.string t] w fun e w'=>e = .returned (.int .i64 (qE l s t))∧Below w.heap.size w w':=by
 go_enter Tryz.func40,Tryz.ntmps40
 go_wp2_with fail
 refine(aeI A0 A n0 c0 c mn l s t _ hl (hs.mono (by exact(by repeat(first|assumption|exact v9r|apply zc|apply zd|apply zg|apply ze|apply zi))))).mono ?_;rintro e w1 ⟨rfl,hb1⟩
 go_wp2_with fail
 go_ret
 exact⟨rfl,za (by exact(by repeat(first|assumption|exact v9r|apply zc|apply zd|apply zg|apply ze|apply zi))) hb1⟩
end Go.Proofs.YtmhdambkchlilaaGreatDoor
