/- Chapter 13: the error of a unit, its function and its instruction, as plain functions. Chapter 13: known, uses, natural, variableName, isCatch: what they return. Chapter 13: the operations' patterns of fields. -/
import Derived.Test.YtmhdambkchlilaaGreatDoorJGc
import Derived.Test.YtmhdambkchlilaaGreatDoorJGt
import Derived.Test.YtmhdambkchlilaaGreatDoorJShelf
import Derived.Test.YtmhdambkchlilaaGreatDoorJGa
namespace Go.Proofs.YtmhdambkchlilaaGreatDoor
open Go.RowKit
set_option linter.unusedVariables false
def kH:List (List UInt8):=[[],[100,110],[100],[100,97],[100,97,111,98],[100],[100,99],[100,97,109],[97,109,98],[100,97,99,109,42],[100,99,109,42],[97,103],[103],[97],[97],[100,99],[100,97,110]]
def abv(op:Int):List UInt8:=(kH[op.toNat]?).getD []
def zH(op:Int):Bool:=decide (0≤op)&&decide (op<17)
def zp(op ch:Int):Bool:=zH op&&(abv op).contains ch.toNat.toUInt8
def natL:List UInt8→Bool
 |[]=>false
 |c::r=> !(c==48 && !r.isEmpty)&&(c::r).all fun x=>decide (48≤x.toNat)&&decide (x.toNat≤57)
def qW(s:ByteArray):Bool:=if s.size≤32∧Lib.hasPrefix (toL s) [36]=true then natL ((toL s).drop 1) else zC s
def wInt:List UInt8:=[105,110,116]
def jW:List UInt8:=[110,117,108,108]
def qD:List UInt8:=[116,104,105,115]
def agn:List UInt8:=[77,97,105,110]
def ago:List UInt8:=[109,97,105,110]
def varB(n:Nat)(v:Int):Bool:=decide (0≤v)&&decide (v<n)
def zL(code:List Ins)(i:Int):Bool:=decide (0≤i)&&match code[i.toNat]? with
 |some x=>decide (x.op=15)
 |none=>false
theorem qJ{code:List Ins}{i:Nat}(h:i<code.length):zL code i=decide (code[i].op=15):=by
 unfold zL;rw[Int.toNat_natCast,List.getElem?_eq_getElem h];simp
theorem kv{code:List Ins}{i:Int}(h:¬(0≤i∧i<code.length)):zL code i=false:=by
 unfold zL
 by_cases h0:0≤i
 ·rw[List.getElem?_eq_none (by omega)];simp
 ·simp[h0]
def zE(c:Ins):Bool:=
 (zp c.op 100||c.dst==0)&&(zp c.op 97||c.a==0)&&(zp c.op 98||c.b==0)&&(zp c.op 110||zp c.op 111||c.n==0) &&
 (zp c.op 99||c.cls.toList.isEmpty)&&(zp c.op 109||c.name.toList.isEmpty)&&(zp c.op 42||(c.args.length:Int)==0)&&(zp c.op 103||c.jmp==0)
def yL(n:Nat)(code:List Ins)(c:Ins):Bool:=
 !(zp c.op 100 && !varB n c.dst&&(!zp c.op 42||decide (c.dst≠ -1))) && !(zp c.op 97 && !varB n c.a&&(decide (c.op≠13)||decide (c.a≠ -1))) && !(zp c.op 98 && !varB n c.b)&&c.args.all (varB n) &&
 !(zp c.op 103&&(decide (c.jmp<0)||decide ((code.length:Int)≤c.jmp)))&&(decide (c.hnd = -1)||zL code c.hnd)
def ctlB(code:List Ins)(i:Nat)(c:Ins):Bool:=
 (decide (c.op=12)||decide (c.op=13)||decide (c.op=14) || !(decide ((i:Int)=code.length-1)||zL code ((i:Int)+1))) && !(zp c.op 103&&zL code c.jmp)&&(decide (c.op≠15)||decide (0<i))
def tyOf(vars:List Fld)(v:Int):ByteArray:=((vars[v.toNat]?).map (·.typ)).getD ByteArray.empty
def zu(s:ByteArray):Bool:=s.toList==wInt
def zW(cs:List Cls)(s:ByteArray):Bool:= !zu s&&decide (0≤fnd cs s)
def zB(cs:List Cls)(p q:ByteArray):Bool:=p.toList==q.toList||p.toList==jW && !zu q||zW cs p&&zW cs q&&hasS (zx cs p) q
def zM(b:Bool):Int:=if b then 0 else 8
def yN(cs:List Cls)(vars:List Fld)(c:Ins)(g:Sg):Int:=
 if c.args.length≠g.params.length then 9 else if(List.range c.args.length).any (fun i=> !zB cs (tyOf vars ((c.args[i]?).getD 0)) ((g.params[i]?).getD ByteArray.empty)) then 8
 else zM (decide (c.dst = -1) || !g.result.toList.isEmpty&&zB cs g.result (tyOf vars c.dst))
def sgAt(cs:List Cls)(q:Int×Int):Option Sg:=if q.1<0 then none else(cs[q.1.toNat]?).bind fun x=>x.methods[q.2.toNat]?
def qv(cs:List Cls)(c:Ins):Option Sg:=if fnd cs c.cls<0 then none else
 match cs[(fnd cs c.cls).toNat]? with
 |none=>none
 |some x=>if idxI (isSg c.name) x.methods<0 then none else match x.methods[(idxI (isSg c.name) x.methods).toNat]? with
  |some m=>if m.static then some m else none
  |none=>none
def qg(cs:List Cls)(vars:List Fld)(c:Ins):Int:=
 if !zW cs (tyOf vars c.a) then 8 else if !(zz cs (tyOf vars c.a) c.name).2.2 then 6
 else if c.op=7 then zM (zB cs (zz cs (tyOf vars c.a) c.name).2.1 (tyOf vars c.dst)) else zM (zB cs (tyOf vars c.b) (zz cs (tyOf vars c.a) c.name).2.1)
def insT(cs:List Cls)(vars:List Fld)(res:ByteArray)(c:Ins):Int:=
 if c.op=1∨c.op=5 then zM (zu (tyOf vars c.dst))
 else if c.op=2 then zM (!zu (tyOf vars c.dst))
 else if c.op=3 then zM (zB cs (tyOf vars c.a) (tyOf vars c.dst))
 else if c.op=16 then zM (zu (tyOf vars c.a)&&zu (tyOf vars c.dst))
 else if c.op=11 then zM (zu (tyOf vars c.a))
 else if c.op=14 then zM (!zu (tyOf vars c.a))
 else if c.op=4 then zM (zu (tyOf vars c.dst)&&(zu (tyOf vars c.a)&&zu (tyOf vars c.b)||decide (c.n=5) && !zu (tyOf vars c.a) && !zu (tyOf vars c.b)))
 else if c.op=6∨c.op=15 then if fnd cs c.cls<0 then 6 else zM (zB cs c.cls (tyOf vars c.dst))
 else if c.op=7∨c.op=8 then qg cs vars c
 else if c.op=9 then
  if !zW cs (tyOf vars c.a) || !((tyOf vars c.a).toList==c.cls.toList) then 8 else
  match sgAt cs (zU cs c.cls c.name) with
  |none=>6
  |some g=>if g.static then 6 else yN cs vars c g
 else if c.op=10 then match qv cs c with
  |none=>6
  |some g=>yN cs vars c g
 else if c.op=13 then if(decide (c.a = -1) != res.toList.isEmpty)=true then 9 else zM (decide (c.a = -1)||zB cs (tyOf vars c.a) res)
 else 0
def insE(cs:List Cls)(vars:List Fld)(res:ByteArray)(code:List Ins)(i:Nat)(c:Ins):Int:=
 if !zH c.op||decide (c.op=4)&&(decide (c.n<1)||decide (5<c.n)) then 12 else if !zE c then 1 else if !yL vars.length code c then 4 else if !ctlB code i c then 1 else insT cs vars res c
def insF(cs:List Cls)(f:Fun)(i:Nat):Int:=match f.code[i]? with
 |some c=>insE cs f.vars f.result f.code i c
 |none=>0
theorem abY{cs:List Cls}{f:Fun}{i:Nat}(h:i<f.code.length):insF cs f i=insE cs f.vars f.result f.code i f.code[i]:=by unfold insF;rw[List.getElem?_eq_getElem h]
def parL(cl:ByteArray)(m:Sg):List ByteArray:=(if m.static then [] else [cl])++m.params
def belB(cl:ByteArray)(m:Sg)(f:Fun):Bool:=
 decide (f.cls=cl)&&decide (f.name=m.name)&&decide (f.static=m.static)&&decide (f.result=m.result)&&decide (f.nparams=(parL cl m).length)&&decide ((parL cl m).length≤f.vars.length) &&
 (List.range (parL cl m).length).all (fun i=>decide (((f.vars[i]?).map (·.typ))=(parL cl m)[i]?))&&(m.static||decide (((f.vars[0]?).map (·.name.toList))=some qD))
def vrE(cs:List Cls)(st:Bool)(i:Nat)(v:Fld):Int:=
 if !qW v.name&&(!(v.name.toList==qD)||decide (0<i)||st) then 5 else if !(v.typ.toList==wInt) && !(v.typ.toList==jW)&&decide (fnd cs v.typ<0) then 8 else 0
def vrF(cs:List Cls)(f:Fun)(i:Nat):Int:=match f.vars[i]? with
 |some v=>vrE cs f.static i v
 |none=>0
theorem adA{cs:List Cls}{f:Fun}{i:Nat}(h:i<f.vars.length):vrF cs f i=vrE cs f.static i f.vars[i]:=by unfold vrF;rw[List.getElem?_eq_getElem h]
def funE(cs:List Cls)(cl:ByteArray)(m:Sg)(f:Fun):Int:=
 if !belB cl m f then 20 else if 256<f.vars.length∨1024<f.code.length then 3 else if frst (vrF cs f) f.vars.length≠0 then frst (vrF cs f) f.vars.length else if f.code.length=0 then 1 else 0
def fcE(cs:List Cls)(cl:ByteArray)(m:Sg)(f:Fun):Int×Int:=
 if funE cs cl m f≠0 then(-1,funE cs cl m f) else match jB (insF cs f) f.code.length with
 |some i=>((i:Int),insF cs f i)
 |none=>(0,0)
def mthN:List Cls→Nat
 |[]=>0
 |c::r=>c.methods.length+mthN r
def xa(f:Fun):Bool:=f.cls.toList==agn&&f.name.toList==ago&&f.static&&decide (f.nparams=0)&&f.result.toList.isEmpty
def uniE(u:Unt):Int:=
 if(yn u.classes).2≠0 then(yn u.classes).2 else if 256<u.funcs.length then 3 else if u.funcs.length≠mthN u.classes then 20 else if u.main<0∨(u.funcs.length:Int)≤u.main then 14 else
 match u.funcs[u.main.toNat]? with
 |some f=>if xa f then 0 else 14
 |none=>14
def mthL(cs:List Cls):List (ByteArray×Sg):=cs.flatMap fun c=>c.methods.map fun m=>(c.name,m)
def fcF(u:Unt)(k:Nat):Int×Int:=match (mthL u.classes)[k]?,u.funcs[k]? with
 |some p,some f=>fcE u.classes p.1 p.2 f
 |_,_=>(0,0)
def newN(code:List Ins):Nat:=code.countP fun c=>decide (c.op=6)
def qw:List Fun→Nat
 |[]=>0
 |f::r=>newN f.code+qw r
def chkE(u:Unt):Int×Int×Int:=
 if uniE u≠0 then(-1,-1,uniE u) else match jB (fun k=>(fcF u k).2) u.funcs.length with
 |some k=>((k:Int),(fcF u k).1,(fcF u k).2)
 |none=>if 1024<qw u.funcs then(-1,-1,3) else(0,0,0)
def qk:List ByteArray:=kH.map fun l=>⟨l.toArray⟩
def yw(w:World):Prop:=∀i (h:i<qk.length),w.cell? ⟨0,i,none⟩=some (.string qk[i])
theorem yw.lt{w:World}(h:yw w):0<w.heap.size:=by
 have hk:=h 0 (by decide);unfold World.cell? at hk
 split at hk
 ·rename_i hh;exact(Array.getElem?_eq_some_iff.1 hh).1
 ·cases hk
theorem yw.mono{w w':World}(h:yw w)(hb:Below w.heap.size w w'):yw w':=fun i hi=>by rw[hb.cell (p:=⟨_,i,none⟩) h.lt];exact h i hi
theorem abw(l:List UInt8)(c:UInt8):Lib.indexByte l c = -1∨0≤Lib.indexByte l c:=by
 induction l with
 |nil=>exact Or.inl rfl
 |cons b l ih=>
  unfold Lib.indexByte
  split
  ·right;omega
  ·split
   ·exact Or.inl rfl
   ·rename_i h
    rcases ih with h2|h2
    ·rw[h2] at h;simp at h
    ·right;omega
theorem ac4(l:List UInt8)(c:UInt8):decide (0≤Lib.indexByte l c)=l.contains c:=by
 induction l with
 |nil=>rfl
 |cons b l ih=>
  rw[List.contains_cons,←ih];rw[show Lib.indexByte (b::l) c=if(b==c)=true then 0 else if(Lib.indexByte l c == -1)=true then -1 else Lib.indexByte l c+1 from rfl]
  by_cases e:b=c
  ·subst e;simp
  ·have e2:(c==b)=false:=by simpa using fun h=>e h.symm
   have e3:(b==c)=false:=by simpa using e
   rw[e2,e3,Bool.false_or]
   rcases abw l c with h2|h2
   ·rw[h2];rfl
   ·have:(Lib.indexByte l c == -1)=false:=by simp;omega
    rw[this];simp only[Bool.false_eq_true,if_false];rw[decide_eq_true h2,decide_eq_true (by omega)]
theorem aif{k:Nat}(hk:k<qk.length):abv (k:Int)=qk[k].data.toList:=by
 have h2:k<kH.length:=by simpa[qk] using hk
 unfold abv;rw[Int.toNat_natCast,List.getElem?_eq_getElem h2]
 simp[qk]
theorem jl(op:Int)(w:World):Calls Tryz.prog 153 #[.int .i64 op] w fun e w'=>e = .returned (.bool (zH op))∧w=w':=by
 obtain⟨r,HR⟩:∃r,Hid (r=zH op):=⟨_,v9h rfl⟩
 rw[←HR.out]
 by_cases h0:0≤op
 ·by_cases h1:op<17
  ·have HB:Hid (r=true):=by show r=true;rw[HR.out];unfold zH;rw[decide_eq_true h0,decide_eq_true h1];rfl
   go_enter Tryz.func153,Tryz.ntmps153
   go_wp2_with fail
   go_ret
   exact⟨by rw[HB.out];rfl,rfl⟩
  ·have HB:Hid (r=false):=by show r=false;rw[HR.out];unfold zH;rw[decide_eq_true h0,decide_eq_false h1];rfl
   go_enter Tryz.func153,Tryz.ntmps153
   go_wp2_with fail
   go_ret
   exact⟨by rw[HB.out];rfl,rfl⟩
 ·have HB:Hid (r=false):=by show r=false;rw[HR.out];unfold zH;rw[decide_eq_false h0];rfl
  go_enter Tryz.func153,Tryz.ntmps153
  go_wp2_with fail
  go_ret
  exact⟨by rw[HB.out];rfl,rfl⟩
theorem aft{op:Int}(h:zH op=true):∃k:Nat,op=k∧k<qk.length:=by
 unfold zH at h;simp only[Bool.and_eq_true,decide_eq_true_eq] at h;exact⟨op.toNat,by omega,by show _<17;omega⟩
theorem ahf(op c:Int)(w:World)(hf:yw w):Calls Tryz.prog 107 #[.int .i64 op,.int .u8 c] w fun e w'=>e = .returned (.bool (zp op c))∧w=w':=by
 obtain⟨r,HR⟩:∃r,Hid (r=zp op c):=⟨_,v9h rfl⟩
 rw[←HR.out]
 cases hk:zH op with
 |false=>
  have HB:Hid (r=false):=by show r=false;rw[HR.out];unfold zp;rw[hk];rfl
  go_enter Tryz.func107,Tryz.ntmps107
  go_wp2_with fail
  refine(jl op _).mono ?_;rintro e w1 ⟨rfl,rfl⟩;rw[hk]
  go_wp2_with fail
  go_ret
  exact⟨by rw[HB.out];rfl,rfl⟩
 |true=>
  obtain⟨k,rfl,hkl⟩:=aft hk
  have HB:Hid (r=decide (0≤Lib.indexByte qk[k].data.toList c.toNat.toUInt8)):=by
   show r=_;rw[HR.out];unfold zp;rw[hk,aif hkl,ac4];rfl
  have d0:=hf k hkl;have hl:=hf.lt;have hkl2:k<17:=hkl
  go_enter Tryz.func107,Tryz.ntmps107
  go_wp2_with fail
  refine(jl _ _).mono ?_;rintro e w1 ⟨rfl,rfl⟩;rw[hk]
  go_wp2_with fail
  refine(Tryz.strings_IndexByte _ _ _).mono ?_;rintro e w1 ⟨rfl,rfl⟩
  go_wp2_with fail
  go_ret
  exact⟨by rw[HB.out];rfl,rfl⟩
structure Pat(op:Int)(d a b n o c m s g:Bool):Prop where
 d:zp op 100=d
 a:zp op 97=a
 b:zp op 98=b
 n:zp op 110=n
 o:zp op 111=o
 c:zp op 99=c
 m:zp op 109=m
 s:zp op 42=s
 g:zp op 103=g
theorem ai7{op:Int}(h:zH op=false):Pat op false false false false false false false false false:=by
 constructor<;>(unfold zp;rw[h];rfl)
theorem acx(op:Int):Pat op false false false false false false false false false∨Pat op true false false true false false false false false∨Pat op true false false false false false false false false∨Pat op true true false false false false false false false∨Pat op true true true false true false false false false∨Pat op true false false false false true false false false∨Pat op true true false false false false true false false∨Pat op false true true false false false true false false∨Pat op true true false false false true true true false∨Pat op true false false false false true true true false∨Pat op false true false false false false false false true∨Pat op false false false false false false false false true∨Pat op false true false false false false false false false∨Pat op true true false true false false false false false:=by
 cases hk:zH op with
 |false=>exact Or.inl (ai7 hk)
 |true=>
  unfold zH at hk;simp only[Bool.and_eq_true,decide_eq_true_eq] at hk;have:op=0∨op=1∨op=2∨op=3∨op=4∨op=5∨op=6∨op=7∨op=8∨op=9∨op=10∨op=11∨op=12∨op=13∨op=14∨op=15∨op=16:=by omega
  rcases this with rfl|rfl|rfl|rfl|rfl|rfl|rfl|rfl|rfl|rfl|rfl|rfl|rfl|rfl|rfl|rfl|rfl
  ·exact Or.inl ⟨rfl,rfl,rfl,rfl,rfl,rfl,rfl,rfl,rfl⟩
  ·exact Or.inr (Or.inl ⟨rfl,rfl,rfl,rfl,rfl,rfl,rfl,rfl,rfl⟩)
  ·exact Or.inr (Or.inr (Or.inl ⟨rfl,rfl,rfl,rfl,rfl,rfl,rfl,rfl,rfl⟩))
  ·exact Or.inr (Or.inr (Or.inr (Or.inl ⟨rfl,rfl,rfl,rfl,rfl,rfl,rfl,rfl,rfl⟩)))
  ·exact Or.inr (Or.inr (Or.inr (Or.inr (Or.inl ⟨rfl,rfl,rfl,rfl,rfl,rfl,rfl,rfl,rfl⟩))))
  ·exact Or.inr (Or.inr (Or.inl ⟨rfl,rfl,rfl,rfl,rfl,rfl,rfl,rfl,rfl⟩))
  ·exact Or.inr (Or.inr (Or.inr (Or.inr (Or.inr (Or.inl ⟨rfl,rfl,rfl,rfl,rfl,rfl,rfl,rfl,rfl⟩)))))
  ·exact Or.inr (Or.inr (Or.inr (Or.inr (Or.inr (Or.inr (Or.inl ⟨rfl,rfl,rfl,rfl,rfl,rfl,rfl,rfl,rfl⟩))))))
  ·exact Or.inr (Or.inr (Or.inr (Or.inr (Or.inr (Or.inr (Or.inr (Or.inl ⟨rfl,rfl,rfl,rfl,rfl,rfl,rfl,rfl,rfl⟩)))))))
  ·exact Or.inr (Or.inr (Or.inr (Or.inr (Or.inr (Or.inr (Or.inr (Or.inr (Or.inl ⟨rfl,rfl,rfl,rfl,rfl,rfl,rfl,rfl,rfl⟩))))))))
  ·exact Or.inr (Or.inr (Or.inr (Or.inr (Or.inr (Or.inr (Or.inr (Or.inr (Or.inr (Or.inl ⟨rfl,rfl,rfl,rfl,rfl,rfl,rfl,rfl,rfl⟩)))))))))
  ·exact Or.inr (Or.inr (Or.inr (Or.inr (Or.inr (Or.inr (Or.inr (Or.inr (Or.inr (Or.inr (Or.inl ⟨rfl,rfl,rfl,rfl,rfl,rfl,rfl,rfl,rfl⟩))))))))))
  ·exact Or.inr (Or.inr (Or.inr (Or.inr (Or.inr (Or.inr (Or.inr (Or.inr (Or.inr (Or.inr (Or.inr (Or.inl ⟨rfl,rfl,rfl,rfl,rfl,rfl,rfl,rfl,rfl⟩)))))))))))
  ·exact Or.inr (Or.inr (Or.inr (Or.inr (Or.inr (Or.inr (Or.inr (Or.inr (Or.inr (Or.inr (Or.inr (Or.inr (Or.inl ⟨rfl,rfl,rfl,rfl,rfl,rfl,rfl,rfl,rfl⟩))))))))))))
  ·exact Or.inr (Or.inr (Or.inr (Or.inr (Or.inr (Or.inr (Or.inr (Or.inr (Or.inr (Or.inr (Or.inr (Or.inr (Or.inl ⟨rfl,rfl,rfl,rfl,rfl,rfl,rfl,rfl,rfl⟩))))))))))))
  ·exact Or.inr (Or.inr (Or.inr (Or.inr (Or.inr (Or.inl ⟨rfl,rfl,rfl,rfl,rfl,rfl,rfl,rfl,rfl⟩)))))
  ·exact Or.inr (Or.inr (Or.inr (Or.inr (Or.inr (Or.inr (Or.inr (Or.inr (Or.inr (Or.inr (Or.inr (Or.inr (Or.inr (⟨rfl,rfl,rfl,rfl,rfl,rfl,rfl,rfl,rfl⟩)))))))))))))
theorem bspU(b:Bool):b=false∨b=true:=by cases b<;>simp
theorem zj{op c:Int}{b:Bool}(h:zp op c=b)(w:World)(hf:yw w):Calls Tryz.prog 107 #[.int .i64 op,.int .u8 c] w fun e w'=>e = .returned (.bool b)∧w=w':=by
 subst h;exact ahf op c w hf
end Go.Proofs.YtmhdambkchlilaaGreatDoor
