/- Chapter 15: the machine of package interp at the closed unit of the law: assign, leave, execute. Chapter 15: interp.Run at the closed unit of the law, with the input [7] and at most nine steps. Chapter 15: operators (the program's and the answer's). Chapter 15: the law's awake. Chapter 15: interp.Dispatch; the walks of InterpBin and InterpDispatch. -/
import Derived.Test.YtmhdambkchlilaaGreatDoorProg
import Derived.Test.YtmhdambkchlilaaGreatDoorJPz
import Derived.Test.YtmhdambkchlilaaGreatDoorJUs
import Derived.Test.YtmhdambkchlilaaGreatDoorJGa
import Derived.Test.YtmhdambkchlilaaGreatDoorJPq
namespace Go.Proofs.YtmhdambkchlilaaGreatDoor
open Go.RowKit
set_option linter.unusedVariables false
set_option maxRecDepth 100000
set_option maxHeartbeats 2000000
theorem Own.capLe{α:Type}{cells:α→List Value}{size base:Nat}{e:TypeId}{w:World}{g n c:Nat}{l:List α}(h:Own cells size base e w (.slice (some ⟨g,0,none⟩) n c) l)(hn:l.length=n):n≤c:=by
 rcases h.2 with⟨h1,_⟩|⟨g',cap,cur,hv,_,_,hnc,_⟩
 ·cases h1
 ·injection hv with _ _ h3
  omega
def binP(op a b:Int):Int×Int:=
 if op=1 then(wrap64 (a+b),0) else if op=2 then(wrap64 (a-b),0) else if op=3 then(wrap64 (a*b),0) else if op=4 then(if a<b then 1 else 0,0) else if op=5 then(if a=b then 1 else 0,0) else(0,12)
theorem kC(b:Bool)(w:World):Calls Tryz.prog 36 #[.bool b] w fun e w'=>e = .returned (.int .i64 (if b then 1 else 0))∧w=w':=by
 cases b<;>(go_enter Tryz.func36,Tryz.ntmps36;go_wp2_with fail;go_ret;exact⟨rfl,rfl⟩)
theorem afc(op a b:Int)(w:World):Calls Tryz.prog 10 #[.int .i64 op,.int .i64 a,.int .i64 b] w fun e w'=>e = .returned (.tuple #[.int .i64 (binP op a b).1,.int .i64 (binP op a b).2])∧w=w':=by
 obtain⟨r,HR⟩:∃r,Hid (r=binP op a b):=⟨_,v9h rfl⟩
 rw[←HR.out]
 cases e1:(op==1) with
 |true=>
  obtain rfl:=eq_of_beq e1;have HB:Hid (r=(wrap64 (a+b),0)):=by show _=_;rw[HR.out];rfl
  go_enter Tryz.func10,Tryz.ntmps10
  go_wp2_with fail
  go_ret2
  exact⟨by rw[HB.out];rfl,rfl⟩
 |false=>
 cases e2:(op==2) with
 |true=>
  obtain rfl:=eq_of_beq e2;have HB:Hid (r=(wrap64 (a-b),0)):=by show _=_;rw[HR.out];rfl
  go_enter Tryz.func10,Tryz.ntmps10
  go_wp2_with fail
  go_ret2
  exact⟨by rw[HB.out];rfl,rfl⟩
 |false=>
 cases e3:(op==3) with
 |true=>
  obtain rfl:=eq_of_beq e3;have HB:Hid (r=(wrap64 (a*b),0)):=by show _=_;rw[HR.out];rfl
  go_enter Tryz.func10,Tryz.ntmps10
  go_wp2_with fail
  go_ret2
  exact⟨by rw[HB.out];rfl,rfl⟩
 |false=>
 cases e4:(op==4) with
 |true=>
  obtain rfl:=eq_of_beq e4
  by_cases h:a<b
  ·have HB:Hid (r=(1,0)):=by show _=_;rw[HR.out];unfold binP;simp[h]
   have h2:decide (a<b)=true:=decide_eq_true h
   go_enter Tryz.func10,Tryz.ntmps10
   go_wp2_with fail
   refine(kC true _).mono ?_;rintro e w1 ⟨rfl,rfl⟩
   go_wp2_with fail
   go_ret2
   exact⟨by rw[HB.out];rfl,rfl⟩
  ·have HB:Hid (r=(0,0)):=by show _=_;rw[HR.out];unfold binP;simp[h]
   have h2:decide (a<b)=false:=decide_eq_false h
   go_enter Tryz.func10,Tryz.ntmps10
   go_wp2_with fail
   refine(kC false _).mono ?_;rintro e w1 ⟨rfl,rfl⟩
   go_wp2_with fail
   go_ret2
   exact⟨by rw[HB.out];rfl,rfl⟩
 |false=>
 cases e5:(op==5) with
 |true=>
  obtain rfl:=eq_of_beq e5
  by_cases h:a=b
  ·have HB:Hid (r=(1,0)):=by show _=_;rw[HR.out];unfold binP;simp[h]
   have h2:(a==b)=true:=by simpa using h
   go_enter Tryz.func10,Tryz.ntmps10
   go_wp2_with fail
   refine(kC true _).mono ?_;rintro e w1 ⟨rfl,rfl⟩
   go_wp2_with fail
   go_ret2
   exact⟨by rw[HB.out];rfl,rfl⟩
  ·have HB:Hid (r=(0,0)):=by show _=_;rw[HR.out];unfold binP;simp[h]
   have h2:(a==b)=false:=by simpa using h
   go_enter Tryz.func10,Tryz.ntmps10
   go_wp2_with fail
   refine(kC false _).mono ?_;rintro e w1 ⟨rfl,rfl⟩
   go_wp2_with fail
   go_ret2
   exact⟨by rw[HB.out];rfl,rfl⟩
 |false=>
  have n1:¬op=1:=fun h=>by rw[h] at e1;cases e1
  have n2:¬op=2:=fun h=>by rw[h] at e2;cases e2
  have n3:¬op=3:=fun h=>by rw[h] at e3;cases e3
  have n4:¬op=4:=fun h=>by rw[h] at e4;cases e4
  have n5:¬op=5:=fun h=>by rw[h] at e5;cases e5
  have HB:Hid (r=(0,12)):=by show _=_;rw[HR.out];unfold binP;rw[if_neg n1,if_neg n2,if_neg n3,if_neg n4,if_neg n5]
  clear n1 n2 n3 n4 n5
  go_enter Tryz.func10,Tryz.ntmps10
  go_wp2_with fail
  go_ret2
  exact⟨by rw[HB.out];rfl,rfl⟩
theorem ahx(u:Unt)(A0 A1:Option Addr)(c0 c1:Nat)(l m:ByteArray)(w:World)(hl:u.classes.length≤8796093022208)(hcc:u.classes.length≤c0)(hok:Hid (qq u.classes))(hso:zG l)(hs:Sl Lay.cls w A0 u.classes)(hlk:Hid (yp u.classes))(hfl:u.funcs.length≤8796093022208)(hf:Sl Lay.fun w A1 u.funcs) :
  Calls Tryz.prog 13 #[.agg #[.slice A0 u.classes.length c0,.slice A1 u.funcs.length c1,.int .i64 u.main],.string l,.string m] w fun e w'=>e = .returned (.int .i64 (kK u.classes u.funcs l m))∧Below w.heap.size w w':=by
 obtain⟨r,HR⟩:∃r,Hid (r=kK u.classes u.funcs l m):=⟨_,v9h rfl⟩
 rw[←HR.out]
 go_enter Tryz.func13,Tryz.ntmps13
 go_upto_region 1 with fail
 generalize hW:World.alloc _ _=W1 at *
 have hb1:Below w.heap.size w W1:=by rw[←hW];exact(by repeat(first|assumption|exact v9r|apply zc|apply zd|apply zg|apply ze|apply zi))
 have bu:Box W1 w.heap.size [.slice A0 u.classes.length c0,.slice A1 u.funcs.length c1,.int .i64 u.main] 32:=by rw[←hW];exact Box.new _ _ _
 clear hW;have u0:=bu.cell 0 rfl;have ul:=bu.lt
 go_wp2_with fail
 refine(abp A0 c0 u.classes l m _ hl hcc (hs.mono hb1) hok hlk hso).mono ?_;rintro e w2 ⟨hR,hq2⟩;have hb2:=za hb1 hq2;have bu2:=bu.mono hq2;obtain⟨nm,g,AP,cP,ok,rfl,hK⟩:=hR.ok hlk.out;have HD:=v9h (aiH (fs:=u.funcs) hK);clear u0 ul bu hR hK hq2
 go_upto_region 2 with fail
 generalize hW:World.alloc _ _=W3 at *
 have h23:Below w2.heap.size w2 W3:=by rw[←hW];exact zc (v9r)
 have bs:Box W3 w2.heap.size [.string g.name,.bool g.static,.slice AP g.params.length cP,.string g.result] 36:=by rw[←hW];exact Box.new _ _ _
 clear hW;have hb3:=za hb2 h23;have bu3:=bu2.mono h23;have s1:=bs.cell 1 rfl;have sl:=bs.lt;clear h23 bu2
 cases ok with
 |false=>
  have HB:Hid (r = -1):=by show r = -1;rw[HR.out,HD.out];rfl
  go_wp2_with fail
  go_ret
  exact⟨by rw[HB.out];rfl,hb3⟩
 |true=>
 cases hst:g.static with
 |true=>
  rw[hst] at s1;have HB:Hid (r = -1):=by show r = -1;rw[HR.out,HD.out,hst];rfl
  go_wp2_with fail
  go_ret
  exact⟨by rw[HB.out];rfl,hb3⟩
 |false=>
  rw[hst] at s1;have HB:Hid (r=qE u.funcs nm m):=by show r=_;rw[HR.out,HD.out,hst];rfl
  have u0:=bu3.cell 0 rfl;have u1:=bu3.cell 1 rfl;have u2:=bu3.cell 2 rfl;have ul:=bu3.lt
  go_wp2_with fail
  refine(abJ A0 A1 u.classes.length c0 c1 u.main u.funcs nm m _ (by omega) (hf.mono hb3)).mono ?_;rintro e w4 ⟨rfl,hq4⟩
  go_wp2_with fail
  go_ret
  exact⟨by rw[HB.out];rfl,za hb3 hq4⟩
structure ah2(W:World):Prop where
 kw:KwX W
 fx:yw W
theorem afd{α:Type}{p:α→Bool}{l:List α}(h:0≤idxI p l):∃k:Nat,∃hk:k<l.length,idxI p l=(k:Int)∧p l[k]=true:=by
 unfold idxI at h ⊢
 cases hf:l.findIdx? p with
 |none=>rw[hf] at h;exact absurd h (show ¬(0:Int)≤ -1 by decide)
 |some i=>
  rw[List.findIdx?_eq_some_iff_getElem] at hf;obtain⟨hi,hp,_⟩:=hf;exact⟨i,hi,rfl,hp⟩
end Go.Proofs.YtmhdambkchlilaaGreatDoor
