/- Identifiers, exactly, in the program and in the reference. -/
import Derived.Test.YtmhdambkchlilaaGreatDoorJLexA
import Derived.Test.YtmhdambkchlilaaGreatDoorJGb
import Derived.Test.YtmhdambkchlilaaGreatDoorJGa
namespace Go.Proofs.YtmhdambkchlilaaGreatDoor
open Go.RowKit
set_option linter.unusedVariables false
set_option maxRecDepth 100000
set_option maxHeartbeats 1000000
def jU(c:UInt8):Bool:=xF c.toNat
def kwB(s:ByteArray):Bool:=kwL.any fun k=>s.toList==k.toList
def zC(s:ByteArray):Bool:=decide (0<s.size)&&decide (s.size≤32)&&yi (s.data.getD 0 0).toNat&&(toL s).all jU && !kwB s
theorem kt{s:ByteArray}{f:UInt8→Bool}:(toL s).all f=true↔∀i (h:i<s.size),f s[i]=true:=by
 unfold toL;rw[List.all_eq_true]
 constructor
 ·intro H i h
  exact H _ (by simp[ByteArray.getElem_eq_getElem_data])
 ·intro H x hx
  obtain⟨i,hi,rfl⟩:=List.getElem_of_mem hx;have:=H i (by simpa using hi)
  simpa[ByteArray.getElem_eq_getElem_data] using this
theorem jL{s:ByteArray}:(s.toList==([]:List UInt8))=decide (s.size=0):=by
 rw[ByteArray.toList_eq]
 rcases s with⟨d⟩
 rcases d with⟨l⟩
 cases l<;>simp[ByteArray.size]
def ajs(s:ByteArray)(w:World)(e:Ending)(w':World):Prop:=∃b:Bool,∃n:Int,e = .returned (.int .i64 n)∧w=w'∧(n==(s.size:Int))=b∧b=(toL s).all jU
theorem ahc(s:ByteArray)(w:World)(hs:s.size≤9223372036854775807):Calls Tryz.prog 286 #[.string s,.func (.func 287) #[] #[]] w (ajs s w):=by
 go_enter Tryz.func286,Tryz.ntmps286
 go_wp2_with fail
 go_loop [5] (fun i=>∃k:Nat,k≤s.size∧i = .int .i64 k∧Hid (∀i (h:i<s.size),i<k→jU s[i]=true)) (fun i=>s.size-(intOf i).toNat)
 case atStart=>exact⟨0,Nat.zero_le _,rfl,fun i h hi=>by omega⟩
 case round=>
  obtain⟨k,hk,rfl,HN⟩:=hrel
  by_cases hlt:k<s.size
  ·go_wp2_with fail
   refine(ahb _ _).mono ?_;rintro e w1 ⟨rfl,rfl⟩
   cases hp:xF s[k].toNat with
   |true=>
    have HE:Hid (∀i (h:i<s.size),i<k+1→jU s[i]=true):=fun i h hi=>by
     by_cases e:i=k
     ·subst e;exact hp
     ·exact HN.out i h (by omega)
    go_wp2_with fail
    go_round
    case rel=>exact⟨k+1,by omega,by go_num,HE⟩
    case measure=>simp[intOf];omega
   |false=>
    go_wp2_with fail
    go_ret
    refine⟨false,_,rfl,rfl,by simp;omega,?_⟩
    cases ha:(toL s).all jU with
    |false=>rfl
    |true=>have:=kt.1 ha k hlt;unfold jU at this;rw[hp] at this;cases this
  ·go_wp2_with fail
   go_ret
   refine⟨true,_,rfl,rfl,by simp;omega,?_⟩;exact(kt.2 fun i h=>HN.out i h (by omega)).symm
def KwX(w:World):Prop:=∀i (h:i<kwL.length),w.cell? ⟨2,i,none⟩=some (.string kwL[i])
theorem KwX.lt{w:World}(h:KwX w):2<w.heap.size:=by
 have hk:=h 0 (by decide);unfold World.cell? at hk
 split at hk
 ·rename_i hh;exact(Array.getElem?_eq_some_iff.1 hh).1
 ·cases hk
theorem KwX.mono{w w':World}(h:KwX w)(hb:Below w.heap.size w w'):KwX w':=fun i hi=>by rw[hb.cell (p:=⟨_,i,none⟩) h.lt];exact h i hi
def afp:Value:= .agg #[.string ⟨#[99,108,97,115,115]⟩,.string ⟨#[101,120,116,101,110,100,115]⟩,.string ⟨#[118,97,114]⟩,.string ⟨#[100,101,102]⟩,.string ⟨#[115,116,97,116,105,99]⟩,.string ⟨#[105,102]⟩,.string ⟨#[101,108,115,101]⟩,.string ⟨#[119,104,105,108,101]⟩,.string ⟨#[116,114,121]⟩,.string ⟨#[99,97,116,99,104]⟩,.string ⟨#[116,104,114,111,119]⟩,.string ⟨#[114,101,116,117,114,110]⟩,.string ⟨#[110,101,119]⟩,.string ⟨#[110,117,108,108]⟩,.string ⟨#[116,104,105,115]⟩,.string ⟨#[105,110,112,117,116]⟩,.string ⟨#[105,110,116]⟩]
theorem afq(i:Nat)(hi:i<17)(w:World):(Instr.index 272 afp (.int .i64 (i:Int))).run Tryz.prog w = .ok (.string (kwL.getD i ⟨#[]⟩)) w:=
 match i,hi with
 | 0,_=>by kernel_rfl
 | 1,_=>by kernel_rfl
 | 2,_=>by kernel_rfl
 | 3,_=>by kernel_rfl
 | 4,_=>by kernel_rfl
 | 5,_=>by kernel_rfl
 | 6,_=>by kernel_rfl
 | 7,_=>by kernel_rfl
 | 8,_=>by kernel_rfl
 | 9,_=>by kernel_rfl
 | 10,_=>by kernel_rfl
 | 11,_=>by kernel_rfl
 | 12,_=>by kernel_rfl
 | 13,_=>by kernel_rfl
 | 14,_=>by kernel_rfl
 | 15,_=>by kernel_rfl
 | 16,_=>by kernel_rfl
 |n+17,h=>absurd h (by omega)
theorem agk(i:Nat)(hi:i<kwL.length)(w:World):(Instr.index 272 afp (.int .i64 (i:Int))).run Tryz.prog w = .ok (.string kwL[i]) w:=by
 rw[afq i hi w,List.getD_eq_getElem?_getD,List.getElem?_eq_getElem hi]
 rfl
theorem agl{s:ByteArray}{k:Nat}(h:∀i (h:i<kwL.length),i<k→(s.toList==kwL[i].toList)=false)(hk:kwL.length≤k):kwB s=false:=by
 unfold kwB;rw[List.any_eq_false];intro x hx;obtain⟨i,hi,rfl⟩:=List.getElem_of_mem hx;rw[h i hi (by omega)]
 simp
theorem ae0{s:ByteArray}{k:Nat}(hk:k<kwL.length)(h:(s.toList==kwL[k].toList)=true):kwB s=true:=by
 unfold kwB;rw[List.any_eq_true];exact⟨kwL[k],List.getElem_mem hk,h⟩
theorem aes(s:ByteArray)(w:World)(hk:KwX w):Calls Tryz.prog 288 #[.string s] w fun e w'=>e = .returned (.bool (kwB s))∧w=w':=by
 have c0:=hk 0 (by decide);have c1:=hk 1 (by decide);have c2:=hk 2 (by decide);have c3:=hk 3 (by decide);have c4:=hk 4 (by decide);have c5:=hk 5 (by decide);have c6:=hk 6 (by decide);have c7:=hk 7 (by decide);have c8:=hk 8 (by decide);have c9:=hk 9 (by decide);have c10:=hk 10 (by decide);have c11:=hk 11 (by decide);have c12:=hk 12 (by decide);have c13:=hk 13 (by decide);have c14:=hk 14 (by decide);have c15:=hk 15 (by decide);have c16:=hk 16 (by decide);simp only[kwL,List.getElem_cons_zero] at c0;simp only[kwL,List.getElem_cons_zero,List.getElem_cons_succ] at c1;simp only[kwL,List.getElem_cons_zero,List.getElem_cons_succ] at c2;simp only[kwL,List.getElem_cons_zero,List.getElem_cons_succ] at c3;simp only[kwL,List.getElem_cons_zero,List.getElem_cons_succ] at c4;simp only[kwL,List.getElem_cons_zero,List.getElem_cons_succ] at c5;simp only[kwL,List.getElem_cons_zero,List.getElem_cons_succ] at c6;simp only[kwL,List.getElem_cons_zero,List.getElem_cons_succ] at c7;simp only[kwL,List.getElem_cons_zero,List.getElem_cons_succ] at c8;simp only[kwL,List.getElem_cons_zero,List.getElem_cons_succ] at c9;simp only[kwL,List.getElem_cons_zero,List.getElem_cons_succ] at c10;simp only[kwL,List.getElem_cons_zero,List.getElem_cons_succ] at c11;simp only[kwL,List.getElem_cons_zero,List.getElem_cons_succ] at c12;simp only[kwL,List.getElem_cons_zero,List.getElem_cons_succ] at c13;simp only[kwL,List.getElem_cons_zero,List.getElem_cons_succ] at c14;simp only[kwL,List.getElem_cons_zero,List.getElem_cons_succ] at c15;simp only[kwL,List.getElem_cons_zero,List.getElem_cons_succ] at c16;have hlt:=hk.lt;have HIX:=v9h (fun i hi=>agk i hi w);unfold afp at HIX;clear hk;obtain⟨r,HR⟩:∃r,Hid (r=kwB s):=⟨_,v9h rfl⟩
 rw[←HR.out]
 go_enter Tryz.func288,Tryz.ntmps288
 go_wp2_with fail
 clear c0 c1 c2 c3 c4 c5 c6 c7 c8 c9 c10 c11 c12 c13 c14 c15 c16
 go_loop [6] (fun i=>∃k:Nat,k≤17∧i = .int .i64 k∧Hid (∀i (h:i<kwL.length),i<k→(s.toList==kwL[i].toList)=false)) (fun i=>17-(intOf i).toNat)
 case atStart=>exact⟨0,Nat.zero_le _,rfl,fun i h hi=>by omega⟩
 case round=>
  obtain⟨k,hk,rfl,HN⟩:=hrel
  by_cases hlt:k<17
  ·have hkl:k<kwL.length:=hlt
   have hx:=HIX.out k hkl;obtain⟨y,HY⟩:∃y,Hid (y=kwL[k]):=⟨_,v9h rfl⟩
   rw[←HY.out] at hx
   cases hq:(s.toList==y.toList) with
   |true=>
    have HB:Hid (r=true):=by show _=_;rw[HR.out];exact ae0 hkl (by rw[←HY.out];exact hq)
    go_wp2_with fail
    go_ret
    exact⟨by rw[HB.out];rfl,rfl⟩
   |false=>
    have HE:Hid (∀i (h:i<kwL.length),i<k+1→(s.toList==kwL[i].toList)=false):=fun i h hi=>by
     by_cases e:i=k
     ·subst e;rw[←HY.out];exact hq
     ·exact HN.out i h (by omega)
    go_wp2_with fail
    go_round
    case rel=>exact⟨k+1,by omega,by go_num,HE⟩
    case measure=>simp[intOf];omega
  ·have HB:Hid (r=false):=by show _=_;rw[HR.out];exact agl HN.out (show 17≤k by omega)
   go_wp2_with fail
   go_ret
   exact⟨by rw[HB.out];rfl,rfl⟩
theorem ku(s:ByteArray)(w:World)(hs:s.size≤9223372036854775807)(hk:KwX w):Calls Tryz.prog 224 #[.string s] w fun e w'=>e = .returned (.bool (zC s))∧w=w':=by
 obtain⟨r,HR⟩:∃r,Hid (r=zC s):=⟨_,v9h rfl⟩
 rw[←HR.out]
 by_cases h0:s.size=0
 ·have HB:Hid (r=false):=by show _=_;rw[HR.out];unfold zC;simp[h0]
  have t0:(s.toList==([]:List UInt8))=true:=by rw[jL,h0];rfl
  have t1:s.toList.isEmpty=true:=by simpa using t0
  go_enter Tryz.func224,Tryz.ntmps224
  go_wp2_with fail
  go_ret
  exact⟨by rw[HB.out];rfl,rfl⟩
 have t0:(s.toList==([]:List UInt8))=false:=by rw[jL];exact decide_eq_false h0
 have t1:s.toList.isEmpty=false:=by
  cases h:s.toList.isEmpty with
  |false=>rfl
  |true=>rw[List.isEmpty_iff] at h;rw[h] at t0;cases t0
 have hsz:0<s.size:=by omega
 by_cases h32:32<s.size
 ·have HB:Hid (r=false):=by show _=_;rw[HR.out];unfold zC;rw[decide_eq_false (show ¬s.size≤32 by omega)];simp
  go_enter Tryz.func224,Tryz.ntmps224
  go_wp2_with fail
  go_ret
  exact⟨by rw[HB.out];rfl,rfl⟩
 have HF:Hid (s.data.getD 0 0=s[0]):=by show _=_;unfold Array.getD;rw[dif_pos (show 0<s.data.size from hsz)];rfl
 have h32':s.size≤32:=by omega
 go_enter Tryz.func224,Tryz.ntmps224
 go_wp2_with fail
 refine(abq _ _).mono ?_;rintro e w1 ⟨rfl,rfl⟩
 cases hl:yi (s[0].toNat) with
 |false=>
  have HB:Hid (r=false):=by show _=_;rw[HR.out];unfold zC;rw[HF.out,hl];simp
  go_wp2_with fail
  go_ret
  exact⟨by rw[HB.out];rfl,rfl⟩
 |true=>
  go_wp2_with fail
  refine(ahc s _ hs).mono ?_;rintro e w1 ⟨b,n,rfl,rfl,hb,ha⟩
  cases b with
  |false=>
   have HB:Hid (r=false):=by show _=_;rw[HR.out];unfold zC;rw[←ha];simp
   clear ha
   go_wp2_with fail
   go_ret
   exact⟨by rw[HB.out];rfl,rfl⟩
  |true=>
   have HB:Hid (r = !kwB s):=by show _=_;rw[HR.out];unfold zC;rw[HF.out,hl,←ha,decide_eq_true hsz,decide_eq_true h32'];simp
   clear ha
   go_wp2_with fail
   refine(aes s _ hk).mono ?_;rintro e w1 ⟨rfl,rfl⟩
   go_wp2_with fail
   go_ret
   exact⟨by rw[HB.out];rfl,rfl⟩
theorem aad(c:Int)(w:World):Calls Tryz.prog 303 #[.int .u8 c] w fun e w'=>e = .returned (.bool (yi c))∧w=w':=by
 obtain⟨r,HR⟩:∃r,Hid (r=yi c):=⟨_,v9h rfl⟩
 rw[←HR.out]
 go_enter Tryz.func303,Tryz.ntmps303
 go_wp2_with fail
 all_goals (go_ret;refine⟨?_,rfl⟩;rw[HR.out];congr 2;unfold yi;simp[*])
 all_goals omega
theorem ady(c:Int)(w:World):Calls Tryz.prog 331 #[.int .u8 c] w fun e w'=>e = .returned (.bool (qF c))∧w=w':=by
 obtain⟨r,HR⟩:∃r,Hid (r=qF c):=⟨_,v9h rfl⟩
 rw[←HR.out]
 go_enter Tryz.func331,Tryz.ntmps331
 go_wp2_with fail
 all_goals (go_ret;refine⟨?_,rfl⟩;rw[HR.out];congr 2;unfold qF;simp[*])
 all_goals omega
theorem aet(c:Int)(w:World):Calls Tryz.prog 305 #[.int .u8 c] w fun e w'=>e = .returned (.bool (xF c))∧w=w':=by
 have e:xF c=(yi c||qF c||c==95):=rfl;rw[e];clear e
 go_enter Tryz.func305,Tryz.ntmps305
 go_wp2_with fail
 refine(aad c _).mono ?_;rintro e w1 ⟨rfl,rfl⟩
 cases hq:yi c with
 |true=>
  go_wp2_with fail
  go_ret
  exact⟨by rw[hq];rfl,rfl⟩
 |false=>
  go_wp2_with fail
  refine(ady c _).mono ?_;rintro e w1 ⟨rfl,rfl⟩
  cases hq2:qF c with
  |true=>
   go_wp2_with fail
   go_ret
   exact⟨by rw[hq,hq2];rfl,rfl⟩
  |false=>
   go_wp2_with fail
   go_ret
   exact⟨by rw[hq,hq2];rfl,rfl⟩
def xr:List Value:=[.string ⟨#[99,108,97,115,115]⟩,.string ⟨#[101,120,116,101,110,100,115]⟩,.string ⟨#[118,97,114]⟩,.string ⟨#[100,101,102]⟩,.string ⟨#[115,116,97,116,105,99]⟩,.string ⟨#[105,102]⟩,.string ⟨#[101,108,115,101]⟩,.string ⟨#[119,104,105,108,101]⟩,.string ⟨#[116,114,121]⟩,.string ⟨#[99,97,116,99,104]⟩,.string ⟨#[116,104,114,111,119]⟩,.string ⟨#[114,101,116,117,114,110]⟩,.string ⟨#[110,101,119]⟩,.string ⟨#[110,117,108,108]⟩,.string ⟨#[116,104,105,115]⟩,.string ⟨#[105,110,112,117,116]⟩,.string ⟨#[105,110,116]⟩]
theorem afr(i:Nat)(hi:i<kwL.length):xr[i]? = some (.string kwL[i]):=by
 have h:xr=kwL.map Value.string:=rfl;rw[h,List.getElem?_map,List.getElem?_eq_getElem hi]
 rfl
theorem abX(s:ByteArray)(w:World):Calls Tryz.prog 304 #[.string s] w fun e w'=>e = .returned (.bool (kwB s))∧Below w.heap.size w w':=by
 have bx:=Box.new w xr 9;have hbw:Below w.heap.size w (w.alloc (.cells xr.toArray 9)):=zc (v9r);obtain⟨r,HR⟩:∃r,Hid (r=kwB s):=⟨_,v9h rfl⟩
 rw[←HR.out];have HBX:=v9h (fun i hi=>bx.cell i (afr i hi));have bl:=bx.lt;clear bx;unfold xr at HBX hbw bl
 go_enter Tryz.func304,Tryz.ntmps304
 go_wp2_with fail
 generalize hW:World.alloc _ _=W at *
 go_loop [4] (fun i=>∃k:Nat,k≤17∧i = .int .i64 k∧Hid (∀i (h:i<kwL.length),i<k→(s.toList==kwL[i].toList)=false)) (fun i=>17-(intOf i).toNat)
 case atStart=>exact⟨0,Nat.zero_le _,rfl,fun i h hi=>by omega⟩
 case round=>
  obtain⟨k,hk,rfl,HN⟩:=hrel
  by_cases hlt:k<17
  ·have hkl:k<kwL.length:=hlt
   have hx:=HBX.out k hkl;obtain⟨y,HY⟩:∃y,Hid (y=kwL[k]):=⟨_,v9h rfl⟩
   rw[←HY.out] at hx
   cases hq:(y.toList==s.toList) with
   |true=>
    have HB:Hid (r=true):=by show _=_;rw[HR.out];exact ae0 hkl (by rw[←HY.out,BEq.comm];exact hq)
    go_wp2_with fail
    go_ret
    exact⟨by rw[HB.out];rfl,hbw⟩
   |false=>
    have HE:Hid (∀i (h:i<kwL.length),i<k+1→(s.toList==kwL[i].toList)=false):=fun i h hi=>by
     by_cases e:i=k
     ·subst e;rw[←HY.out,BEq.comm];exact hq
     ·exact HN.out i h (by omega)
    go_wp2_with fail
    go_round
    case rel=>exact⟨k+1,by omega,by go_num,HE⟩
    case measure=>simp[intOf];omega
  ·have HB:Hid (r=false):=by show _=_;rw[HR.out];exact agl HN.out (show 17≤k by omega)
   go_wp2_with fail
   go_ret
   exact⟨by rw[HB.out];rfl,hbw⟩
theorem jV(s:ByteArray)(w:World)(hs:s.size≤9223372036854775807):Calls Tryz.prog 265 #[.string s] w fun e w'=>e = .returned (.bool (zC s))∧Below w.heap.size w w':=by
 obtain⟨r,HR⟩:∃r,Hid (r=zC s):=⟨_,v9h rfl⟩
 rw[←HR.out]
 by_cases h0:s.size=0
 ·have HB:Hid (r=false):=by show _=_;rw[HR.out];unfold zC;simp[h0]
  have t0:(s.toList==([]:List UInt8))=true:=by rw[jL,h0];rfl
  have t1:s.toList.isEmpty=true:=by simpa using t0
  go_enter Tryz.func265,Tryz.ntmps265
  go_wp2_with fail
  go_ret
  exact⟨by rw[HB.out];rfl,v9r⟩
 have t0:(s.toList==([]:List UInt8))=false:=by rw[jL];exact decide_eq_false h0
 have t1:s.toList.isEmpty=false:=by
  cases h:s.toList.isEmpty with
  |false=>rfl
  |true=>rw[List.isEmpty_iff] at h;rw[h] at t0;cases t0
 have hsz:0<s.size:=by omega
 by_cases h32:32<s.size
 ·have HB:Hid (r=false):=by show _=_;rw[HR.out];unfold zC;rw[decide_eq_false (show ¬s.size≤32 by omega)];simp
  go_enter Tryz.func265,Tryz.ntmps265
  go_wp2_with fail
  go_ret
  exact⟨by rw[HB.out];rfl,v9r⟩
 have HF:Hid (s.data.getD 0 0=s[0]):=by show _=_;unfold Array.getD;rw[dif_pos (show 0<s.data.size from hsz)];rfl
 have h32':s.size≤32:=by omega
 go_enter Tryz.func265,Tryz.ntmps265
 go_wp2_with fail
 refine(aad _ _).mono ?_;rintro e w1 ⟨rfl,rfl⟩
 cases hl:yi (s[0].toNat) with
 |false=>
  have HB:Hid (r=false):=by show _=_;rw[HR.out];unfold zC;rw[HF.out,hl];simp
  go_wp2_with fail
  go_ret
  exact⟨by rw[HB.out];rfl,v9r⟩
 |true=>
  go_wp2_with fail
  refine(abX s _).mono ?_;rintro e w1 ⟨rfl,hb1⟩
  cases hkw:kwB s with
  |true=>
   have HB:Hid (r=false):=by show _=_;rw[HR.out];unfold zC;rw[hkw];simp
   clear hkw
   go_wp2_with fail
   go_ret
   exact⟨by rw[HB.out];rfl,hb1⟩
  |false=>
   have HB:Hid (r=(toL s).all jU):=by show _=_;rw[HR.out];unfold zC;rw[HF.out,hl,hkw,decide_eq_true hsz,decide_eq_true h32'];simp
   clear hkw
   go_wp2_with fail
   go_loop [3] (fun i=>∃k:Nat,k≤s.size∧i = .int .i64 k∧Hid (∀i (h:i<s.size),i<k→jU s[i]=true)) (fun i=>s.size-(intOf i).toNat)
   case atStart=>exact⟨0,Nat.zero_le _,rfl,fun i h hi=>by omega⟩
   case round=>
    obtain⟨k,hk,rfl,HN⟩:=hrel
    by_cases hlt:k<s.size
    ·go_wp2_with fail
     refine(aet _ _).mono ?_;rintro e w2 ⟨rfl,rfl⟩
     cases hp:xF s[k].toNat with
     |true=>
      have HE:Hid (∀i (h:i<s.size),i<k+1→jU s[i]=true):=fun i h hi=>by
       by_cases e:i=k
       ·subst e;exact hp
       ·exact HN.out i h (by omega)
      go_wp2_with fail
      go_round
      case rel=>exact⟨k+1,by omega,by go_num,HE⟩
      case measure=>simp[intOf];omega
     |false=>
      have HC:Hid (r=false):=by
       show _=_;rw[HB.out]
       cases ha:(toL s).all jU with
       |false=>rfl
       |true=>have:=kt.1 ha k hlt;unfold jU at this;rw[hp] at this;cases this
      go_wp2_with fail
      go_ret
      exact⟨by rw[HC.out];rfl,hb1⟩
    ·have HC:Hid (r=true):=by show _=_;rw[HB.out];exact kt.2 fun i h=>HN.out i h (by omega)
     go_wp2_with fail
     go_ret
     exact⟨by rw[HC.out];rfl,hb1⟩
end Go.Proofs.YtmhdambkchlilaaGreatDoor
