/- Chapter 10: what holds of a valid hierarchy, and what a subclass inherits (plain; for seats with the exact Check). Chapter 15: the machine as a plain function, and that a valid unit keeps it well typed (plain). Chapter 15: each step of a well-typed machine leaves it well typed (plain). Chapter 15: the steps of an execution follow from each other (plain). Chapter 15: runs of the machine: types, prefixes (plain). -/
import Derived.Test.YtmhdambkchlilaaGreatDoorJUs
import Derived.Test.YtmhdambkchlilaaGreatDoorJVlR
import Derived.Test.YtmhdambkchlilaaGreatDoorJIz
namespace Go.Proofs.YtmhdambkchlilaaGreatDoor
open Go.RowKit
set_option linter.unusedVariables false
set_option maxHeartbeats 1000000
structure ajA(m o:Sg):Prop where
 st1:m.static=false
 st2:o.static=false
 res:m.result=o.result
 par:m.params=o.params
structure ajg(cs:List Cls)(i:Nat)(hi:i<cs.length):Prop where
 full:cs[i].name.toList.isEmpty=false
 first:fnd cs cs[i].name=i
 known:cs[i].super.toList.isEmpty=true∨0≤fnd cs cs[i].super
 acyc:(chR cs i).2=false
 flds:∀k (hk:k<cs[i].fields.length),∀j∈(chR cs i).1.tail,fIdx cs cs[i].fields[k].name j<0
 mths:∀k (hk:k<cs[i].methods.length),∀j∈(chR cs i).1.tail,∀o∈mths cs j,o.name=cs[i].methods[k].name→ajA cs[i].methods[k] o
structure yV(cs:List Cls):Prop where
 len:cs.length≤64
 cls:∀i (hi:i<cs.length),ajg cs i hi
inductive Path (nx:Nat→Int):Int→List Int→Prop
 |stop {i:Int} (h:i<0):Path nx i []
 |step {i:Int} {P:List Int} (h:0≤i) (hp:Path nx (nx i.toNat) P):Path nx i (i::P)
theorem Path.det{nx:Nat→Int}{i:Int}{P Q:List Int}(h1:Path nx i P)(h2:Path nx i Q):P=Q:=by
 induction h1 generalizing Q with
 |stop h=>cases h2 with
  |stop _=>rfl
  |step h' _=>omega
 |step h hp ih=>cases h2 with
  |stop h'=>omega
  |step _ hq=>rw[ih hq]
theorem Path.part{nx:Nat→Int}{i:Int}{P:List Int}(h:Path nx i P){j:Int}(hj:j∈P):∃pre Q,P=pre++Q∧Path nx j Q:=by
 induction h with
 |stop h=>simp at hj
 | @step i P h hp ih=>
  rcases List.mem_cons.1 hj with e|e
  ·subst e;exact⟨[],_,rfl,.step h hp⟩
  ·obtain⟨pre,Q,h1,h2⟩:=ih e
   exact⟨i::pre,Q,by rw[h1];rfl,h2⟩
theorem Path.ge{nx:Nat→Int}{i:Int}{P:List Int}(h:Path nx i P):∀x∈P,0≤x:=by
 induction h with
 |stop h=>simp
 | @step i P h hp ih=>
  intro x hx
  rcases List.mem_cons.1 hx with e|e
  ·subst e;exact h
  ·exact ih x e
theorem Path.last{nx:Nat→Int}{i:Int}{P:List Int}(h:Path nx i P)(hne:P≠[]):nx (P.getLast hne).toNat<0:=by
 induction h with
 |stop h=>exact absurd rfl hne
 | @step i P h hp ih=>
  cases hp with
  |stop h'=>simpa using h'
  | @step _ Q h' hq=>
   rw[List.getLast_cons (by simp)];exact ih (by simp)
theorem acQ{nx:Nat→Int}:∀(f:Nat) (i:Int) (l:List Int),(chGo nx f i l).2=false→∃P,(chGo nx f i l).1=l++P∧Path nx i P
 | 0,i,l,h=>⟨[],by simp[chGo],.stop (by simp[chGo] at h;omega)⟩
 |f+1,i,l,h=>by
  by_cases hc:0≤i∧i∉l
  ·rw[qe hc] at h ⊢
   obtain⟨P,h1,h2⟩:=acQ f _ _ h;exact⟨i::P,by rw[h1];simp,.step hc.1 h2⟩
  ·rw[yF hc] at h ⊢
   exact⟨[],by simp,.stop (by simpa using h)⟩
def up(cs:List Cls)(i:Int):List Int:=(chR cs i).1
section
variable {cs:List Cls} (hv:yV cs)
include hv
theorem yV.path{i:Int}(hi:i<cs.length):Path (supI cs) i (up cs i):=by
 have h:(chR cs i).2=false:=by
  rcases Int.lt_or_le i 0 with h|h
  ·unfold chR;rw[yF (fun h'=>by omega)];simpa using h
  ·obtain⟨n,rfl⟩:∃n:Nat,i=n:=⟨i.toNat,by omega⟩
   exact(hv.cls n (by omega)).acyc
 obtain⟨P,h1,h2⟩:=acQ _ _ _ h;unfold up chR;rw[h1];exact h2
theorem yV.up_step{i:Nat}(hi:i<cs.length):up cs i=(i:Int)::up cs (supI cs i):=by
 have h1:=hv.path (i:=(i:Int)) (by omega);exact h1.det (.step (by omega) (hv.path (abW _ _).2))
theorem yV.up_sub{i j:Int}(hi:i<cs.length)(hj:j∈up cs i):∃pre,up cs i=pre++up cs j:=by
 obtain⟨pre,Q,h1,h2⟩:=(hv.path hi).part hj;have hjl:=(qj hi).1 j hj;exact⟨pre,by rw[h1,h2.det (hv.path hjl.2)]⟩
theorem yV.fnd_nm{j:Int}(h0:0≤j)(hj:j<cs.length):fnd cs (nmAt cs j)=j:=by
 obtain⟨n,rfl⟩:∃n:Nat,j=n:=⟨j.toNat,by omega⟩
 rw[qh (by omega)];exact(hv.cls n (by omega)).first
end
theorem ajh{cs:List Cls}{s:ByteArray}(h:0≤fnd cs s):nmAt cs (fnd cs s)=s:=by
 unfold fnd idxI at *
 cases hq:cs.findIdx? (yP s) with
 |none=>rw[hq] at h;simp at h
 |some i=>
  obtain⟨hi,h1,_⟩:=List.findIdx?_eq_some_iff_getElem.1 hq;simp only;rw[qh hi];exact zO.1 h1
section
variable {cs:List Cls} (hv:yV cs)
include hv
theorem yV.mem_names{l:List Int}(hl:∀x∈l,0≤x∧x<(cs.length:Int))(s:ByteArray):s∈l.map (nmAt cs)↔fnd cs s∈l:=by
 rw[List.mem_map]
 constructor
 ·rintro⟨x,hx,rfl⟩
  rw[hv.fnd_nm (hl x hx).1 (hl x hx).2];exact hx
 ·intro h
  exact⟨_,h,ajh (hl _ h).1⟩
theorem yV.sub_iff(a b:ByteArray):hasS (zx cs a) b=true↔fnd cs b∈up cs (fnd cs a):=by
 rw[xE];exact hv.mem_names (qj (yb cs a).2).1 b
theorem yV.sub_trans{a b c:ByteArray}(h1:hasS (zx cs a) b=true)(h2:hasS (zx cs b) c=true):hasS (zx cs a) c=true:=by
 rw[hv.sub_iff] at *
 obtain⟨pre,h⟩:=hv.up_sub (yb cs a).2 h1;rw[h,List.mem_append];exact Or.inr h2
theorem yV.sub_refl(a:ByteArray):hasS (zx cs a) a=decide (0≤fnd cs a):=by
 rw[Bool.eq_iff_iff,hv.sub_iff,decide_eq_true_eq]
 constructor
 ·exact fun h=>(hv.path (yb cs a).2).ge _ h
 ·intro h
  obtain⟨n,hn⟩:∃n:Nat,fnd cs a=n:=⟨(fnd cs a).toNat,by omega⟩
  rw[hn,hv.up_step (i:=n) (by have:=(yb cs a).2;omega)]
  simp
end
theorem Path.suffix{nx:Nat→Int}{x:Int}{R:List Int}:∀{p:List Int} {i:Int},Path nx i (p++x::R)→Path nx x (x::R)
 |[],i,h=>by
  have:i=x:=by cases h;rfl
  subst this;exact h
 |y::p,i,h=>by
  cases h with
  |step h0 hp=>exact Path.suffix hp
theorem yV.below{cs:List Cls}(hv:yV cs){i:Int}(hi:i<cs.length){pre L:List Int}(he:up cs i=pre++L){x:Int}(hx:x∈pre):∃n:Nat,∃hn:n<cs.length,x=n∧∀j∈L,j∈(chR cs n).1.tail:=by
 obtain⟨p1,p2,rfl⟩:=List.append_of_mem hx;have hp:=hv.path hi;rw[he,List.append_assoc,List.cons_append] at hp;have h1:=hp.suffix;have hxb:=(qj (cs:=cs) hi).1 x (by change x∈up cs i;rw[he];simp);obtain⟨n,rfl⟩:∃n:Nat,x=n:=⟨x.toNat,by omega⟩
 have h2:=h1.det (hv.path hxb.2);refine⟨n,by omega,rfl,fun j hj=>?_⟩
 change j∈(up cs (n:Int)).tail
 rw[←h2]
 simp[hj]
theorem aat{cs:List Cls}{n:ByteArray}:∀{L:List Int},(ya cs n L).2.2=true→∃j∈L,0≤fIdx cs n j
 |[],h=>by simp[ya] at h
 |j::r,h=>by
  by_cases hj:0≤fIdx cs n j
  ·exact⟨j,by simp,hj⟩
  ·rw[ya,if_neg hj] at h
   obtain⟨x,hx,h2⟩:=aat h;exact⟨x,by simp[hx],h2⟩
theorem aa0{cs:List Cls}{n:ByteArray}{L:List Int}:∀{pre:List Int},(∀x∈pre,¬0≤fIdx cs n x)→ya cs n (pre++L)=ya cs n L
 |[],_=>rfl
 |x::p,h=>by
  rw[List.cons_append,ya,if_neg (h x (by simp))];exact aa0 fun y hy=>h y (by simp[hy])
theorem acb{α:Type}{p:α→Bool}{l:List α}(h:0≤idxI p l):∃k,∃hk:k<l.length,idxI p l=k∧p l[k]=true:=by
 unfold idxI at *
 cases hq:l.findIdx? p with
 |none=>rw[hq] at h;simp at h
 |some k=>
  obtain⟨hk,h1,_⟩:=List.findIdx?_eq_some_iff_getElem.1 hq;exact⟨k,hk,rfl,h1⟩
theorem yV.inherit_field{cs:List Cls}(hv:yV cs){a b:ByteArray}(n:ByteArray)(hs:hasS (zx cs a) b=true)(hok:(zz cs b n).2.2=true):zz cs a n=zz cs b n:=by
 rw[hv.sub_iff] at hs;obtain⟨pre,he⟩:=hv.up_sub (yb cs a).2 hs;obtain⟨j,hj,hj2⟩:=aat hok;unfold zz
 change ya cs n (up cs (fnd cs a))=_
 rw[he];refine aa0 fun x hx hx2=>?_
 obtain⟨m,hm,rfl,hall⟩:=hv.below (yb cs a).2 he hx;rw[jj hm] at hx2;obtain⟨k,hk,_,hkn⟩:=acb hx2;have hnm:cs[m].fields[k].name=n:=zO.1 hkn;have:=(hv.cls m hm).flds k hk j (hall j hj);rw[hnm] at this
 omega
structure SgEq(s t:Sg):Prop where
 name:s.name=t.name
 stat:s.static=t.static
 par:s.params=t.params
 res:s.result=t.result
theorem yV.inherit_look{cs:List Cls}(hv:yV cs){a b:ByteArray}(m:ByteArray)(hs:hasS (zx cs a) b=true){j k:Nat}(hj:j<cs.length)(hk:k<cs[j].methods.length)(hl:zU cs b m=((j:Int),(k:Int)))
  (hmem:(j:Int)∈up cs (fnd cs b)) (hidx:idxI (isSg m) cs[j].methods=k):∃j' k':Nat,∃hj':j'<cs.length,∃hk':k'<cs[j'].methods.length,zU cs a m=((j':Int),(k':Int))∧SgEq cs[j].methods[k] cs[j'].methods[k']:=by
 rw[hv.sub_iff] at hs;obtain⟨pre,he⟩:=hv.up_sub (yb cs a).2 hs
 have hname:cs[j].methods[k].name=m:=by
  obtain⟨k2,hk2,e,h⟩:=acb (p:=isSg m) (l:=cs[j].methods) (by omega);obtain rfl:k=k2:=by omega
  exact zO.1 h
 have hLA:zU cs a m=lookL cs m (pre++up cs (fnd cs b)):=by rw[←he];rfl
 have hLB:lookL cs m (up cs (fnd cs b))=((j:Int),(k:Int)):=hl
 have key:∀q:List Int,(∀x∈q,∃n:Nat,∃hn:n<cs.length,x=n∧∀j∈up cs (fnd cs b),j∈(chR cs n).1.tail)→
   ∃j' k':Nat,∃hj':j'<cs.length,∃hk':k'<cs[j'].methods.length,lookL cs m (q++up cs (fnd cs b))=((j':Int),(k':Int))∧SgEq cs[j].methods[k] cs[j'].methods[k']:=by
  intro q
  induction q with
  |nil=>exact fun _=>⟨j,k,hj,hk,hLB,⟨rfl,rfl,rfl,rfl⟩⟩
  |cons x q ih=>
   intro h;obtain⟨n,hn,rfl,hall⟩:=h x (by simp)
   by_cases hx:0≤mIdx cs m n
   ·rw[kS hn] at hx
    obtain⟨k',hk',e,hkn⟩:=acb hx;refine⟨n,k',hn,hk',?_,?_⟩
    ·rw[List.cons_append,lookL,kS hn,if_pos hx,e]
    ·have hnm:cs[n].methods[k'].name=m:=zO.1 hkn
     have hov:=(hv.cls n hn).mths k' hk' j (hall _ hmem) cs[j].methods[k] (by rw[jI hj];exact List.getElem_mem hk) (by rw[hname,hnm]);exact⟨by rw[hname,hnm],by rw[hov.st1,hov.st2],hov.par.symm,hov.res.symm⟩
   ·rw[List.cons_append,lookL,if_neg hx]
    exact ih fun y hy=>h y (by simp[hy])
 obtain⟨j',k',hj',hk',h1,h2⟩:=key pre (fun x hx=>hv.below (yb cs a).2 he hx);exact⟨j',k',hj',hk',by rw[hLA];exact h1,h2⟩
theorem yV.of{cs:List Cls}(h:(yn cs).2=0):yV cs:=by
 obtain⟨h1,h2⟩:=qp h;refine⟨h1,fun i hi=>?_⟩;obtain⟨⟨h3,h4⟩,h5,h6,h7,h8,h9,h10⟩:=qQ (h2 i hi);refine⟨?_,h6,?_,h8,fun k hk j hj=>?_,fun k hk j hj o ho hn=>?_⟩
 ·have:=(yR h5).1
  cases hq:cs[i].name.toList.isEmpty with
  |false=>rfl
  |true=>
   rw[List.isEmpty_iff] at hq;have h0:cs[i].name.toList.length=0:=by rw[hq];rfl
   rw[ByteArray.toList_eq,Array.length_toList] at h0;have:cs[i].name.data.size=cs[i].name.size:=rfl
   omega
 ·cases hq:cs[i].super.toList.isEmpty with
  |true=>exact Or.inl rfl
  |false=>exact Or.inr (h7 hq)
 ·have:=h9 k hk
  unfold fldE at this
  split at this
  ·cases this
  split at this
  ·cases this
  split at this
  ·cases this
  split at this
  ·cases this
  rename_i g
  have g2:=fun hx=>g (List.any_eq_true.2 ⟨j,hj,hx⟩)
  simpa using g2
 ·obtain⟨_,_,_,_,_,g⟩:=jt (h10 k hk)
  unfold yq at g;rw[List.any_eq_false] at g;have g1:=g j hj;rw[Bool.not_eq_true,List.any_eq_false] at g1;have g2:=g1 o ho;rw[show(o.name.toList==cs[i].methods[k].name.toList)=true by rw[hn];simp,Bool.true_and] at g2
  have g3:yB cs[i].methods[k] o=true:=by
   cases hq:yB cs[i].methods[k] o with
   |true=>rfl
   |false=>rw[hq] at g2;exact absurd rfl g2
  unfold yB at g3;simp only[Bool.and_eq_true,Bool.not_eq_true',decide_eq_true_eq] at g3;exact⟨g3.1.1.1,g3.1.1.2,g3.1.2,g3.2⟩
structure Frm where
 fn:Nat
 at_:Nat
 no:Nat
 call:Int
 vals:List Vl
 exc:Vl
structure Hob where
 cls:ByteArray
 val:ByteArray→Vl
structure Obv where
 fn:Nat
 at_:Nat
 no:Nat
 call:Int
 vals:List Vl
structure Mch where
 inp:List Int
 objs:List Hob
 frs:List Frm
 made:Nat
 obs:List Obv
 en:Int
def ajB:Fun:=⟨ByteArray.empty,ByteArray.empty,false,0,[],ByteArray.empty,[]⟩
def ajC:Ins:=⟨0,0,0,0,0,ByteArray.empty,ByteArray.empty,[],0,0⟩
def zb(u:Unt)(k:Nat):Fun:=(u.funcs[k]?).getD ajB
def zh(f:Fun)(i:Nat):Ins:=(f.code[i]?).getD ajC
theorem zv{u:Unt}{k:Nat}(h:k<u.funcs.length):zb u k=u.funcs[k]:=by unfold zb;rw[List.getElem?_eq_getElem h];rfl
theorem zQ{f:Fun}{i:Nat}(h:i<f.code.length):zh f i=f.code[i]:=by unfold zh;rw[List.getElem?_eq_getElem h];rfl
def iniV(t:ByteArray):Vl:=if zu t=true then(1,0,0) else(2,0,0)
def adp(vals:List Vl)(v:Int):Vl:=(vals[v.toNat]?).getD (0,0,0)
def rdV(F:Fun)(vals:List Vl)(v:Int):Vl:=if(adp vals v).1=0 then iniV (tyOf F.vars v) else adp vals v
def jx(c:Ins):Bool:=decide (c.op=6)
def yg(u:Unt):List ByteArray:=((u.funcs.flatMap (·.code)).filter jx).map (·.cls)
def siteNo(u:Unt)(fn i:Nat):Nat:=((u.funcs.take fn).flatMap (·.code)).countP jx+((zb u fn).code.take i).countP jx
def kr(m:Mch)(v:Vl):Hob:=(m.objs[v.2.1.toNat]?).getD ⟨ByteArray.empty,fun _=>(0,0,0)⟩
def qy(u:Unt)(c:ByteArray):Hob:=⟨c,fun n=>iniV (zz u.classes c n).2.1⟩
def binV(a b:Vl)(op:Int):Vl:=if a.1=1 then(1,(binP op a.2.1 b.2.1).1,0) else(1,(if a=b then 1 else 0),0)
def Frm.nx(f:Frm):Frm:={ f with at_:=f.at_+1}
def Frm.st(f:Frm)(d:Int)(v:Vl):Frm:={ f with at_:=f.at_+1,vals:=f.vals.set d.toNat v}
def Frm.go(f:Frm)(i:Int):Frm:={ f with at_:=i.toNat}
def abM(u:Unt)(m:Mch)(fn:Nat)(call:Int)(args:List Vl):Frm:=⟨fn,0,m.made,call,args++List.replicate ((zb u fn).vars.length-args.length) (0,0,0),(0,0,0)⟩
def yW(F:Fun)(f:Frm)(x:Ins):List Vl:=(if x.op=9 then [rdV F f.vals x.a] else [])++x.args.map (rdV F f.vals)
def qS(u:Unt)(m:Mch)(F:Fun)(f:Frm)(x:Ins):Int:=if x.op=9 then kK u.classes u.funcs (kr m (rdV F f.vals x.a)).cls x.name else qE u.funcs x.cls x.name
def yO(u:Unt)(m:Mch)(F:Fun)(f:Frm)(x:Ins):Mch:=
 if 64≤m.frs.length then{ m with en:=5}
 else{ m with frs:=abM u m (qS u m F f x).toNat ((m.obs.length:Int)-1) (yW F f x)::m.frs,made:=m.made+1}
def retV(F:Fun)(f:Frm)(x:Ins):Vl:=if x.a = -1 then(0,0,0) else rdV F f.vals x.a
def Frm.back(u:Unt)(g:Frm)(v:Vl):Frm:=if(zh (zb u g.fn) g.at_).dst = -1 then g.nx else g.st (zh (zb u g.fn) g.at_).dst v
def kD(u:Unt)(m:Mch)(F:Fun)(f:Frm)(r:List Frm)(x:Ins):Mch:=match r with
 |[]=>{ m with frs:=[],en:=1}
 |g::r'=>{ m with frs:=g.back u (retV F f x)::r'}
def yI(u:Unt)(e:Vl):List Frm→List Frm
 |[]=>[]
 |f::r=>if(zh (zb u f.fn) f.at_).hnd = -1 then yI u e r else{ f.go (zh (zb u f.fn) f.at_).hnd with exc:=e}::r
def qH(u:Unt)(m:Mch)(e:Vl):Mch:={ m with frs:=yI u e m.frs,en:=if(yI u e m.frs).isEmpty then 2 else m.en}
def putO(m:Mch)(v:Vl)(n:ByteArray)(y:Vl):List Hob:=m.objs.set v.2.1.toNat ⟨(kr m v).cls,fun k=>if k=n then y else(kr m v).val k⟩
def zS(u:Unt)(m:Mch)(f:Frm)(r:List Frm):Mch:=
 let F:=zb u f.fn
 let x:=zh F f.at_
 if x.op=0 then{ m with frs:=f.nx::r}
 else if x.op=1 then{ m with frs:=f.st x.dst (1,x.n,0)::r}
 else if x.op=2 then{ m with frs:=f.st x.dst (2,0,0)::r}
 else if x.op=3 then{ m with frs:=f.st x.dst (rdV F f.vals x.a)::r}
 else if x.op=4 then{ m with frs:=f.st x.dst (binV (rdV F f.vals x.a) (rdV F f.vals x.b) x.n)::r}
 else if x.op=5 then{ m with inp:=m.inp.tail,frs:=f.st x.dst (1,m.inp.headD 0,0)::r}
 else if x.op=6 then{ m with objs:=m.objs++[qy u x.cls],frs:=f.st x.dst (3,(m.objs.length:Int),(siteNo u f.fn f.at_:Int))::r}
 else if x.op=7 then if(rdV F f.vals x.a).1=3 then{ m with frs:=f.st x.dst ((kr m (rdV F f.vals x.a)).val x.name)::r} else{ m with en:=3}
 else if x.op=8 then if(rdV F f.vals x.a).1=3 then{ m with objs:=putO m (rdV F f.vals x.a) x.name (rdV F f.vals x.b),frs:=f.nx::r} else{ m with en:=3}
 else if x.op=9 then if(rdV F f.vals x.a).1=3 then yO u m F f x else{ m with en:=3}
 else if x.op=10 then yO u m F f x
 else if x.op=11 then{ m with frs:=(if(rdV F f.vals x.a).2.1=0 then f.nx else f.go x.jmp)::r}
 else if x.op=12 then{ m with frs:=f.go x.jmp::r}
 else if x.op=13 then kD u m F f r x
 else if x.op=14 then if(rdV F f.vals x.a).1=3 then qH u m (rdV F f.vals x.a) else{ m with en:=3}
 else if x.op=15 then if hasS (zx u.classes (kr m f.exc).cls) x.cls=true then{ m with frs:=f.st x.dst f.exc::r} else qH u m f.exc
 else{ m with frs:=f.st x.dst (1,wrap64 ((rdV F f.vals x.a).2.1+x.n),0)::r}
def jy(u:Unt)(m:Mch):Mch:=match m.frs with
 |[]=>m
 |f::r=>zS u m f r
def recM(m:Mch):Mch:=match m.frs with
 |[]=>m
 |f::_=>{ m with obs:=m.obs++[⟨f.fn,f.at_,f.no,f.call,f.vals⟩]}
def runM(u:Unt):Nat→Mch→Mch
 | 0,m=>if m.en=0 then{ m with en:=4} else m
 |k+1,m=>if m.en=0 then runM u k (jy u (recM m)) else m
def yD(u:Unt)(inp:List Int):Mch:=⟨inp,[],[⟨u.main.toNat,0,0,-1,List.replicate (zb u u.main.toNat).vars.length (0,0,0),(0,0,0)⟩],1,[],0⟩
def RefC(sites:List ByteArray)(objs:List Hob)(v:Vl)(c:ByteArray):Prop:=v.1=3∧(∃k:Nat,v.2.1=(k:Int)∧∃h:k<objs.length,objs[k].cls=c)∧∃s:Nat,v.2.2=(s:Int)∧sites[s]? = some c
def VT(cs:List Cls)(sites:List ByteArray)(objs:List Hob)(v:Vl)(t:ByteArray):Prop:=
 v=(0,0,0)∨(v.1=1∧zu t=true)∨(v.1=2∧v.2.1=0∧zu t=false)∨(zu t=false∧∃c,RefC sites objs v c∧hasS (zx cs c) t=true)
theorem RefC.mono{sites:List ByteArray}{objs objs':List Hob}{v:Vl}{c:ByteArray}(h:RefC sites objs v c)(hm:∀k (hk:k<objs.length),∃hk':k<objs'.length,objs'[k].cls=objs[k].cls):RefC sites objs' v c:=by
 obtain⟨h1,⟨k,h2,h3,h4⟩,h5⟩:=h;obtain⟨hk',e⟩:=hm k h3;exact⟨h1,⟨k,h2,hk',e.trans h4⟩,h5⟩
theorem VT.mono{cs:List Cls}{sites:List ByteArray}{objs objs':List Hob}{v:Vl}{t:ByteArray}(h:VT cs sites objs v t)(hm:∀k (hk:k<objs.length),∃hk':k<objs'.length,objs'[k].cls=objs[k].cls):VT cs sites objs' v t:=by
 rcases h with h|h|h|⟨h1,c,h2,h3⟩
 ·exact Or.inl h
 ·exact Or.inr (Or.inl h)
 ·exact Or.inr (Or.inr (Or.inl h))
 ·exact Or.inr (Or.inr (Or.inr ⟨h1,c,h2.mono hm,h3⟩))
section
variable {cs:List Cls} {sites:List ByteArray} {objs:List Hob}
theorem VT.ini(t:ByteArray):VT cs sites objs (iniV t) t:=by
 unfold iniV
 cases h:zu t with
 |true=>exact Or.inr (Or.inl ⟨rfl,h⟩)
 |false=>exact Or.inr (Or.inr (Or.inl ⟨rfl,rfl,h⟩))
theorem VT.none(t:ByteArray):VT cs sites objs (0,0,0) t:=Or.inl rfl
theorem agL{c t:ByteArray}(h:hasS (zx cs c) t=true)(hv:yV cs):0≤fnd cs t:=by
 rw[hv.sub_iff] at h;exact(hv.path (yb cs c).2).ge _ h
theorem VT.fits(hv:yV cs)(hn:NoKw cs){v:Vl}{p q:ByteArray}(h:VT cs sites objs v p)(hf:zB cs p q=true):VT cs sites objs v q:=by
 unfold zB at hf;rw[Bool.or_eq_true,Bool.or_eq_true] at hf
 rcases hf with(hf|hf)|hf
 ·rw[jY.1 hf] at h;exact h
 ·rw[Bool.and_eq_true] at hf
  obtain⟨h1,h2⟩:=hf;have hp:=abH.1 h1;have hq:zu q=false:=by simpa using h2
  rcases h with h|h|h|⟨h3,c,h4,h5⟩
  ·exact Or.inl h
  ·rw[hp] at h;exact absurd h.2 (by decide +kernel)
  ·exact Or.inr (Or.inr (Or.inl ⟨h.1,h.2.1,hq⟩))
  ·exact absurd (agL h5 hv) (by rw[hp];exact hn.n)
 ·simp only[Bool.and_eq_true] at hf
  obtain⟨⟨h1,h2⟩,h3⟩:=hf;unfold zW at h1 h2;simp only[Bool.and_eq_true,Bool.not_eq_true',decide_eq_true_eq] at h1 h2
  rcases h with h|h|h|⟨_,c,h4,h5⟩
  ·exact Or.inl h
  ·rw[h1.1] at h;exact absurd h.2 (by decide)
  ·exact Or.inr (Or.inr (Or.inl ⟨h.1,h.2.1,h2.1⟩))
  ·exact Or.inr (Or.inr (Or.inr ⟨h2.1,c,h4,hv.sub_trans h5 h3⟩))
end
structure FrT(u:Unt)(objs:List Hob)(f:Frm):Prop where
 fn:f.fn<u.funcs.length
 at_:f.at_<(zb u f.fn).code.length
 len:f.vals.length=(zb u f.fn).vars.length
 vals:∀(i:Nat) (v:Vl) (t:Fld),f.vals[i]? = some v→(zb u f.fn).vars[i]? = some t→VT u.classes (yg u) objs v t.typ
 exc:zL (zb u f.fn).code f.at_=true→∃c,RefC (yg u) objs f.exc c
structure Link(u:Unt)(g f:Frm):Prop where
 call:(zh (zb u g.fn) g.at_).op=9∨(zh (zb u g.fn) g.at_).op=10
 dst:(zh (zb u g.fn) g.at_).dst = -1∨((zb u f.fn).result.toList.isEmpty=false∧zB u.classes (zb u f.fn).result (tyOf (zb u g.fn).vars (zh (zb u g.fn) g.at_).dst)=true)
def jZ(u:Unt):List Frm→Prop
 |[]=>True
 |[_]=>True
 |f::g::r=>Link u g f∧jZ u (g::r)
structure WT(u:Unt)(m:Mch):Prop where
 frs:∀f∈m.frs,FrT u m.objs f
 chain:jZ u m.frs
 cnt:m.frs.length≤64
 objc:∀k (h:k<m.objs.length),0≤fnd u.classes m.objs[k].cls
 objf:∀k (h:k<m.objs.length),∀n,(zz u.classes m.objs[k].cls n).2.2=true→VT u.classes (yg u) m.objs (m.objs[k].val n) (zz u.classes m.objs[k].cls n).2.1
 some_:m.en=0→m.frs≠[]
theorem qA{u:Unt}(H:UntV u){k:Nat}(h:k<u.funcs.length):∃p,(mthL u.classes)[k]? = some p∧FunV u.classes p.1 p.2 (zb u k):=by rw[zv h];exact H.fn k h
theorem jd{u:Unt}(H:UntV u){k i:Nat}(h:k<u.funcs.length)(hi:i<(zb u k).code.length):InsV u.classes (zb u k) i (zh (zb u k) i):=by
 obtain⟨p,_,hf⟩:=qA H h;rw[zQ hi];exact hf.code i hi
theorem yK{n:Nat}{v:Int}:varB n v=true↔0≤v∧v<n:=by unfold varB;rw[Bool.and_eq_true,decide_eq_true_eq,decide_eq_true_eq]
section
variable {u:Unt} {objs:List Hob} {f:Frm}
theorem FrT.mono{objs':List Hob}(h:FrT u objs f)(hm:∀k (hk:k<objs.length),∃hk':k<objs'.length,objs'[k].cls=objs[k].cls):FrT u objs' f:=
 ⟨h.fn,h.at_,h.len,fun i v t hv ht=>(h.vals i v t hv ht).mono hm,fun hc=>by obtain⟨c,hc⟩:=h.exc hc;exact⟨c,hc.mono hm⟩⟩
theorem FrT.rd(h:FrT u objs f){v:Int}(hv:varB (zb u f.fn).vars.length v=true):VT u.classes (yg u) objs (rdV (zb u f.fn) f.vals v) (tyOf (zb u f.fn).vars v):=by
 obtain⟨h0,h1⟩:=yK.1 hv;unfold rdV
 split
 ·exact VT.ini _
 ·have hk:v.toNat<f.vals.length:=by rw[h.len];omega
  have hk2:v.toNat<(zb u f.fn).vars.length:=by omega
  unfold adp tyOf;rw[List.getElem?_eq_getElem hk,List.getElem?_eq_getElem hk2];exact h.vals v.toNat _ _ (List.getElem?_eq_getElem hk) (List.getElem?_eq_getElem hk2)
theorem VT.int{cs:List Cls}{sites:List ByteArray}{objs:List Hob}{v:Vl}{t:ByteArray}(h:VT cs sites objs v t)(h0:v.1≠0)(ht:zu t=true):v.1=1:=by
 rcases h with h|h|h|⟨h1,_⟩
 ·rw[h] at h0;exact absurd rfl h0
 ·exact h.1
 ·rw[ht] at h;exact absurd h.2.2 (by decide)
 ·rw[ht] at h1;exact absurd h1 (by decide)
theorem VT.ref{cs:List Cls}{sites:List ByteArray}{objs:List Hob}{v:Vl}{t:ByteArray}(h:VT cs sites objs v t)(h3:v.1=3):∃c,RefC sites objs v c∧hasS (zx cs c) t=true:=by
 rcases h with h|h|h|⟨_,c,h⟩
 ·rw[h] at h3;exact absurd h3 (by decide)
 ·rw[h.1] at h3;exact absurd h3 (by decide)
 ·rw[h.1] at h3;exact absurd h3 (by decide)
 ·exact⟨c,h⟩
theorem FrT.st(h:FrT u objs f){d:Int}{v:Vl}(hd:varB (zb u f.fn).vars.length d=true)(hv:VT u.classes (yg u) objs v (tyOf (zb u f.fn).vars d))(hn:f.at_+1<(zb u f.fn).code.length)(hc:zL (zb u f.fn).code ((f.at_:Int)+1)=false):FrT u objs (f.st d v):=by
 obtain⟨h0,h1⟩:=yK.1 hd;refine⟨h.fn,hn,by show(f.vals.set _ _).length=_;rw[List.length_set];exact h.len,fun i w t hw ht=>?_,fun hx=>?_⟩
 ·have hw':(f.vals.set d.toNat v)[i]? = some w:=hw
  rw[List.getElem?_set] at hw'
  by_cases e:d.toNat=i
  ·subst e
   have hl:d.toNat<f.vals.length:=by rw[h.len];omega
   rw[if_pos rfl,if_pos hl] at hw';injection hw' with hw'
   subst hw';unfold tyOf at hv;rw[show(zb u f.fn).vars[d.toNat]? = some t from ht] at hv;exact hv
  ·rw[if_neg e] at hw'
   exact h.vals i w t hw' ht
 ·have hx':zL (zb u f.fn).code ((f.at_+1:Nat):Int)=true:=hx
  rw[show((f.at_+1:Nat):Int)=(f.at_:Int)+1 by omega,hc] at hx'
  cases hx'
theorem FrT.nx(h:FrT u objs f)(hn:f.at_+1<(zb u f.fn).code.length)(hc:zL (zb u f.fn).code ((f.at_:Int)+1)=false):FrT u objs f.nx:=
 ⟨h.fn,hn,h.len,h.vals,fun hx=>by
  have hx':zL (zb u f.fn).code ((f.at_+1:Nat):Int)=true:=hx;rw[show((f.at_+1:Nat):Int)=(f.at_:Int)+1 by omega,hc] at hx'
  cases hx'⟩
theorem FrT.go(h:FrT u objs f){j:Int}(h0:0≤j)(h1:j<(zb u f.fn).code.length)(hc:zL (zb u f.fn).code j=false):FrT u objs (f.go j):=
 ⟨h.fn,(by show j.toNat<(zb u f.fn).code.length;omega),h.len,h.vals,fun hx=>by
  have hx':zL (zb u f.fn).code ((j.toNat:Nat):Int)=true:=hx;rw[Int.toNat_of_nonneg h0,hc] at hx'
  cases hx'⟩
theorem FrT.catch(h:FrT u objs f){j:Int}{e:Vl}{c:ByteArray}(h0:0≤j)(h1:j<(zb u f.fn).code.length)(he:RefC (yg u) objs e c):FrT u objs { f.go j with exc:=e}:=
 ⟨h.fn,(by show j.toNat<(zb u f.fn).code.length;omega),h.len,h.vals,fun _=>⟨c,he⟩⟩
end
structure CtlV(u:Unt)(k i:Nat):Prop where
 next:(zh (zb u k) i).op≠12→(zh (zb u k) i).op≠13→(zh (zb u k) i).op≠14→i+1<(zb u k).code.length∧zL (zb u k).code ((i:Int)+1)=false
 jump:(zh (zb u k) i).op=11∨(zh (zb u k) i).op=12→0≤(zh (zb u k) i).jmp∧(zh (zb u k) i).jmp<(zb u k).code.length∧zL (zb u k).code (zh (zb u k) i).jmp=false
 hnd:(zh (zb u k) i).hnd≠ -1→0≤(zh (zb u k) i).hnd∧(zh (zb u k) i).hnd<(zb u k).code.length
theorem ahy{code:List Ins}{i:Int}(h:zL code i=true):0≤i∧i<code.length:=by
 rcases Classical.em (0≤i∧i<code.length) with h1|h1
 ·exact h1
 ·rw[kv h1] at h;cases h
theorem jz{u:Unt}(H:UntV u){k i:Nat}(hk:k<u.funcs.length)(hi:i<(zb u k).code.length):CtlV u k i:=by
 have hx:=jd H hk hi;have hr:=hx.range;have hc:=hx.ctl;unfold yL at hr;unfold ctlB at hc;simp only[Bool.and_eq_true] at hr hc;obtain⟨⟨_,hg⟩,hh⟩:=hr;obtain⟨⟨hn,hj⟩,_⟩:=hc;refine⟨fun h1 h2 h3=>?_,fun h=>?_,fun h=>?_⟩
 ·rw[decide_eq_false h1,decide_eq_false h2,decide_eq_false h3,Bool.false_or,Bool.false_or,Bool.false_or,Bool.not_eq_true',Bool.or_eq_false_iff] at hn
  have:=of_decide_eq_false hn.1;exact⟨by omega,hn.2⟩
 ·have hu:zp (zh (zb u k) i).op 103=true:=by rcases h with h|h<;>(rw[h];rfl)
  rw[hu,Bool.true_and,Bool.not_eq_true'] at hg hj;rw[Bool.or_eq_false_iff] at hg;have g1:=of_decide_eq_false hg.1;have g2:=of_decide_eq_false hg.2;exact⟨by omega,by omega,hj⟩
 ·rw[decide_eq_false h,Bool.false_or] at hh
  exact ahy hh
theorem qi{b:Bool}(h:zM b=0):b=true:=by
 cases b with
 |true=>rfl
 |false=>exact absurd h (by decide)
structure RgV(u:Unt)(k i:Nat):Prop where
 d:zp (zh (zb u k) i).op 100=true→zp (zh (zb u k) i).op 42=false→varB (zb u k).vars.length (zh (zb u k) i).dst=true
 dc:zp (zh (zb u k) i).op 100=true→(zh (zb u k) i).dst≠ -1→varB (zb u k).vars.length (zh (zb u k) i).dst=true
 a:zp (zh (zb u k) i).op 97=true→((zh (zb u k) i).op≠13∨(zh (zb u k) i).a≠ -1)→varB (zb u k).vars.length (zh (zb u k) i).a=true
 b:zp (zh (zb u k) i).op 98=true→varB (zb u k).vars.length (zh (zb u k) i).b=true
 args:∀v∈(zh (zb u k) i).args,varB (zb u k).vars.length v=true
theorem ke{u:Unt}(H:UntV u){k i:Nat}(hk:k<u.funcs.length)(hi:i<(zb u k).code.length):RgV u k i:=by
 have hr:=(jd H hk hi).range;unfold yL at hr;simp only[Bool.and_eq_true] at hr;obtain⟨⟨⟨⟨⟨h1,h2⟩,h3⟩,h4⟩,_⟩,_⟩:=hr;refine⟨fun a b=>?_,fun a b=>?_,fun a b=>?_,fun a=>?_,fun v hv=>List.all_eq_true.1 h4 v hv⟩
 ·rw[a,b] at h1
  cases hq:varB (zb u k).vars.length (zh (zb u k) i).dst with
  |true=>rfl
  |false=>rw[hq] at h1;exact absurd h1 (by simp)
 ·rw[a,show decide ((zh (zb u k) i).dst≠ -1)=true from decide_eq_true b] at h1
  cases hq:varB (zb u k).vars.length (zh (zb u k) i).dst with
  |true=>rfl
  |false=>rw[hq] at h1;exact absurd h1 (by simp)
 ·cases hq:varB (zb u k).vars.length (zh (zb u k) i).a with
  |true=>rfl
  |false=>
   rw[hq,a] at h2
   rcases b with b|b
   ·rw[show decide ((zh (zb u k) i).op≠13)=true from decide_eq_true b] at h2;exact absurd h2 (by simp)
   ·rw[show decide ((zh (zb u k) i).a≠ -1)=true from decide_eq_true b] at h2;exact absurd h2 (by simp)
 ·cases hq:varB (zb u k).vars.length (zh (zb u k) i).b with
  |true=>rfl
  |false=>rw[hq,a] at h3;exact absurd h3 (by simp)
section
variable {u:Unt} {m:Mch} {f:Frm} {r:List Frm}
theorem Link.fn{g f f':Frm}(h:Link u g f)(e:f'.fn=f.fn):Link u g f':=⟨h.call,by rw[e];exact h.dst⟩
theorem jZ.head{f f':Frm}{r:List Frm}(h:jZ u (f::r))(e:f'.fn=f.fn):jZ u (f'::r):=by
 cases r with
 |nil=>trivial
 |cons g r=>exact⟨h.1.fn e,h.2⟩
theorem jZ.tail{f:Frm}{r:List Frm}(h:jZ u (f::r)):jZ u r:=by
 cases r with
 |nil=>trivial
 |cons g r=>exact h.2
theorem WT.top(hW:WT u m)(hf:m.frs=f::r){objs':List Hob}(hm:∀k (hk:k<m.objs.length),∃hk':k<objs'.length,objs'[k].cls=m.objs[k].cls)
  (hc:∀k (h:k<objs'.length),0≤fnd u.classes objs'[k].cls) (ho:∀k (h:k<objs'.length),∀n,(zz u.classes objs'[k].cls n).2.2=true→VT u.classes (yg u) objs' (objs'[k].val n) (zz u.classes objs'[k].cls n).2.1)
  {f':Frm} (e:f'.fn=f.fn) (hT:FrT u objs' f') (i':List Int) (n':Nat) (b':List Obv) (en':Int):WT u ⟨i',objs',f'::r,n',b',en'⟩:=by
 have hfr:=hW.frs;have hch:=hW.chain;have hct:=hW.cnt;rw[hf] at hfr hch hct;refine⟨fun g hg=>?_,hch.head e,by simpa using hct,hc,ho,fun _ h=>by cases h⟩
 rcases List.mem_cons.1 hg with rfl|hg
 ·exact hT
 ·exact(hfr g (by simp[hg])).mono hm
theorem WT.top0(hW:WT u m)(hf:m.frs=f::r){f':Frm}(e:f'.fn=f.fn)(hT:FrT u m.objs f')(i':List Int)(n':Nat)(b':List Obv)(en':Int):WT u ⟨i',m.objs,f'::r,n',b',en'⟩:=
 hW.top hf (fun k hk=>⟨hk,rfl⟩) hW.objc hW.objf e hT i' n' b' en'
theorem WT.ended(hW:WT u m)(c:Int)(hc:c≠0):WT u { m with en:=c}:=⟨hW.frs,hW.chain,hW.cnt,hW.objc,hW.objf,fun h=>absurd h hc⟩
end
structure UV(u:Unt):Prop where
 h:(yn u.classes).2=0
 u:UntV u
theorem UV.of{u:Unt}(h:(chkE u).2.2=0):UV u:=by
 refine⟨?_,aik h⟩
 have hu:uniE u=0:=by
  rcases Classical.em (uniE u=0) with h1|h1
  ·exact h1
  ·unfold chkE at h;rw[if_pos h1] at h;exact absurd h h1
 exact(kI hu).1
theorem UV.v{u:Unt}(h:UV u):yV u.classes:=yV.of h.h
theorem UV.n{u:Unt}(h:UV u):NoKw u.classes:=NoKw.of h.h
structure CalV(u:Unt)(k:Nat)(cl:ByteArray)(g:Sg):Prop where
 lt:k<u.funcs.length
 cls:(zb u k).cls=cl
 res:(zb u k).result=g.result
 par:∀(i:Nat) (t:ByteArray),(parL cl g)[i]? = some t→∃v:Fld,(zb u k).vars[i]? = some v∧v.typ=t
 le:(parL cl g).length≤(zb u k).vars.length
theorem afe{u:Unt}{k:Nat}(hk:k<u.funcs.length){cl:ByteArray}{g:Sg}(h:belB cl g u.funcs[k]=true):CalV u k cl g∧u.funcs[k].name=g.name:=by
 unfold belB at h;simp only[Bool.and_eq_true,decide_eq_true_eq] at h;obtain⟨⟨⟨⟨⟨⟨⟨h1,h2⟩,h3⟩,h4⟩,h5⟩,h6⟩,h7⟩,_⟩:=h;refine⟨⟨hk,by rw[zv hk];exact h1,by rw[zv hk];exact h4,fun i t ht=>?_,by rw[zv hk];exact h6⟩,h2⟩;rw[zv hk];have hi:i<(parL cl g).length:=(List.getElem?_eq_some_iff.1 ht).1;have:=List.all_eq_true.1 h7 i (List.mem_range.2 hi);have:=of_decide_eq_true this;rw[ht] at this
 cases hv:u.funcs[k].vars[i]? with
 |none=>rw[hv] at this;cases this
 |some v=>rw[hv] at this;exact⟨v,rfl,by injection this⟩
theorem UV.cls_eq{u:Unt}(H:UV u){c d:Cls}(hc:c∈u.classes)(hd:d∈u.classes)(h:c.name=d.name):c=d:=by
 obtain⟨i,hi,rfl⟩:=List.getElem_of_mem hc;obtain⟨j,hj,rfl⟩:=List.getElem_of_mem hd;have h1:=(H.u.cls i hi).first;have h2:=(H.u.cls j hj).first;rw[h,h2] at h1;have:j=i:=by omega
 subst this
 rfl
theorem UV.sg_eq{u:Unt}(H:UV u){c:Cls}(hc:c∈u.classes){g k:Sg}(hg:g∈c.methods)(hk:k∈c.methods)(h:g.name=k.name):g=k:=by
 obtain⟨i,hi,rfl⟩:=List.getElem_of_mem hc;obtain⟨_,_,_,_,_,_,hm⟩:=qQ ((qp H.h).2 i hi);obtain⟨a,ha,rfl⟩:=List.getElem_of_mem hg;obtain⟨b,hb,rfl⟩:=List.getElem_of_mem hk;have h1:=(jt (hm a ha)).2.1;have h2:=(jt (hm b hb)).2.1
 rcases Nat.lt_trichotomy a b with hlt|he|hlt
 ·exact absurd (kZ (p:=isSg u.classes[i].methods[b].name) hb hlt (zO.2 h)) h2
 ·subst he;rfl
 ·exact absurd (kZ (p:=isSg u.classes[i].methods[a].name) ha hlt (zO.2 h.symm)) h1
theorem UV.find{u:Unt}(H:UV u){c:Cls}(hc:c∈u.classes){g:Sg}(hg:g∈c.methods):∃k:Nat,qE u.funcs c.name g.name=(k:Int)∧CalV u k c.name g:=by
 have hm:(c.name,g)∈mthL u.classes:=List.mem_flatMap.2 ⟨c,hc,List.mem_map.2 ⟨g,hg,rfl⟩⟩;obtain⟨j,hj,hjm⟩:=List.getElem_of_mem hm;have hjl:j<u.funcs.length:=by rw[aba] at hj;rw[H.u.hlen];exact hj
 obtain⟨p,hp,hF⟩:=H.u.fn j hjl;rw[List.getElem?_eq_getElem hj,hjm] at hp;injection hp with hp
 subst hp;obtain⟨hV,hnm⟩:=afe hjl hF.bel;have hcl:u.funcs[j].cls=c.name:=by have:=hV.cls;rwa[zv hjl] at this
 have hyes:qb c.name g.name u.funcs[j]=true:=by unfold qb;rw[hcl,hnm];simp
 have h0:0≤qE u.funcs c.name g.name:=by
  unfold qE idxI
  cases hq:u.funcs.findIdx? (qb c.name g.name) with
  |some i=>exact Int.natCast_nonneg i
  |none=>
   rw[List.findIdx?_eq_none_iff] at hq;have:=hq _ (List.getElem_mem hjl);rw[hyes] at this
   cases this
 obtain⟨k,hk,he,hkp⟩:=afd h0;refine⟨k,he,?_⟩;unfold qb at hkp;rw[Bool.and_eq_true] at hkp;obtain⟨q,hq,hG⟩:=H.u.fn k hk;obtain⟨hV2,hnm2⟩:=afe hk hG.bel;obtain⟨d,hd,e1,e2⟩:=adT (List.mem_of_getElem? hq);have hcl2:u.funcs[k].cls=q.1:=by have:=hV2.cls;rwa[zv hk] at this
 have hdc:d=c:=H.cls_eq hd hc (by rw[←e1,←hcl2];exact jY.1 hkp.1);subst hdc;have hgq:q.2=g:=H.sg_eq hd e2 hg (by rw[←hnm2];exact jY.1 hkp.2);rw[e1,hgq] at hV2;exact hV2
theorem xn{cs:List Cls}{vars:List Fld}{c:Ins}{g:Sg}(h:yN cs vars c g=0):c.args.length=g.params.length∧(∀(i:Nat) (v:Int) (t:ByteArray),c.args[i]? = some v→g.params[i]? = some t→zB cs (tyOf vars v) t=true)∧(c.dst = -1∨(g.result.toList.isEmpty=false∧zB cs g.result (tyOf vars c.dst)=true)):=by
 unfold yN at h
 split at h
 ·cases h
 rename_i h1
 split at h
 ·cases h
 rename_i h2
 refine⟨by omega,fun i v t hv ht=>?_,?_⟩
 ·have hi:i<c.args.length:=(List.getElem?_eq_some_iff.1 hv).1
  cases hq:zB cs (tyOf vars v) t with
  |true=>rfl
  |false=>exact absurd (List.any_eq_true.2 ⟨i,List.mem_range.2 hi,by rw[hv,ht];simp[hq]⟩) h2
 ·have:=qi h
  rw[Bool.or_eq_true,Bool.and_eq_true,decide_eq_true_eq,Bool.not_eq_true'] at this;exact this
section
variable {u:Unt} {m:Mch} {f:Frm} {r:List Frm}
theorem RefC.obj{sites:List ByteArray}{v:Vl}{c:ByteArray}(h:RefC sites m.objs v c):∃k:Nat,∃hk:k<m.objs.length,v.2.1=(k:Int)∧kr m v=m.objs[k]∧m.objs[k].cls=c:=by
 obtain⟨_,⟨k,e,hk,hc⟩,_⟩:=h;refine⟨k,hk,e,?_,hc⟩;unfold kr;rw[e,Int.toNat_natCast,List.getElem?_eq_getElem hk]
 rfl
structure af1(u:Unt)(m:Mch)(f:Frm)(k:Nat):Prop where
 callee:qS u m (zb u f.fn) f (zh (zb u f.fn) f.at_)=(k:Int)
 lt:k<u.funcs.length
 len:(yW (zb u f.fn) f (zh (zb u f.fn) f.at_)).length≤(zb u k).vars.length
 args:∀(i:Nat) (v:Vl) (t:Fld),(yW (zb u f.fn) f (zh (zb u f.fn) f.at_))[i]? = some v→(zb u k).vars[i]? = some t→VT u.classes (yg u) m.objs v t.typ
 dst:(zh (zb u f.fn) f.at_).dst = -1∨((zb u k).result.toList.isEmpty=false∧zB u.classes (zb u k).result (tyOf (zb u f.fn).vars (zh (zb u f.fn) f.at_).dst)=true)
theorem aeh{u:Unt}(H:UV u)(h:FrT u m.objs f){g:Sg}(hc:yN u.classes (zb u f.fn).vars (zh (zb u f.fn) f.at_) g=0){i:Nat}{v:Vl}{t:ByteArray}
  (hv:((zh (zb u f.fn) f.at_).args.map (rdV (zb u f.fn) f.vals))[i]? = some v) (ht:g.params[i]? = some t):VT u.classes (yg u) m.objs v t:=by
 have hR:=ke H.u h.fn h.at_;obtain⟨_,h2,_⟩:=xn hc;rw[List.getElem?_map] at hv
 cases ha:(zh (zb u f.fn) f.at_).args[i]? with
 |none=>rw[ha] at hv;cases hv
 |some a=>
  rw[ha] at hv;injection hv with hv
  subst hv;exact(h.rd (hR.args a (List.mem_of_getElem? ha))).fits H.v H.n (h2 i a t ha ht)
theorem xQ{cs:List Cls}{s n:ByteArray}{g:Sg}(h:sgAt cs (zU cs s n)=some g):∃j k:Nat,∃(hj:j<cs.length) (hk:k<cs[j].methods.length),zU cs s n=((j:Int),(k:Int))∧cs[j].methods[k]=g∧(j:Int)∈up cs (fnd cs s)∧idxI (isSg n) cs[j].methods=(k:Int):=by
 rcases kT (cs:=cs) (m:=n) (qj (yb cs s).2).1 with h1|⟨j,k,hj,hk,h1,h2,h3⟩
 ·have h1':zU cs s n=(-1,-1):=h1
  rw[h1'] at h
  cases h
 ·have h1':zU cs s n=((j:Int),(k:Int)):=h1
  refine⟨j,k,hj,hk,h1',?_,h2,h3⟩;rw[h1'] at h;unfold sgAt at h;rw[if_neg (by show ¬(j:Int)<0;omega)] at h;simp only[Int.toNat_natCast,List.getElem?_eq_getElem hj,Option.bind_some] at h;rw[List.getElem?_eq_getElem hk] at h;injection h
theorem acR{u:Unt}(H:UV u)(h:FrT u m.objs f)(hop:(zh (zb u f.fn) f.at_).op=10):∃k,af1 u m f k:=by
 have ht:=(jd H.u h.fn h.at_).typ;rw[acK hop] at ht;obtain⟨g,hg,hce⟩:=adV ht;rw[afJ] at hg
 cases hq:sgAt u.classes (zU u.classes (zh (zb u f.fn) f.at_).cls (zh (zb u f.fn) f.at_).name) with
 |none=>rw[hq] at hg;cases hg
 |some g2=>
  rw[hq,Option.bind_some] at hg
  split at hg
  ·rename_i hs
   injection hg with hg
   subst hg;obtain⟨j,k,hj,hk,e,hgm,-,-⟩:=xQ hq;have hnm:=(aap hq).2;have hcl:u.classes[j].name=(zh (zb u f.fn) f.at_).cls:=by have:=hs.1;rw[e] at this;rw[←this];exact(qh hj).symm
   have hmem:g2∈u.classes[j].methods:=by rw[←hgm];exact List.getElem_mem hk
   obtain⟨n,hn,hV⟩:=H.find (List.getElem_mem hj) hmem;rw[hcl,hnm] at hn;have hpl:parL u.classes[j].name g2=g2.params:=by unfold parL;rw[hs.2];rfl
   obtain⟨c1,_,c3⟩:=xn hce;have hargs:yW (zb u f.fn) f (zh (zb u f.fn) f.at_)=(zh (zb u f.fn) f.at_).args.map (rdV (zb u f.fn) f.vals):=by unfold yW;rw[if_neg (by omega),List.nil_append]
   refine⟨n,?_,hV.lt,?_,fun i v t hv htt=>?_,?_⟩
   ·unfold qS;rw[if_neg (by omega)];exact hn
   ·rw[hargs,List.length_map,c1,←hpl];exact hV.le
   ·rw[hargs] at hv
    have hi:i<g2.params.length:=by rw[←c1];have:=(List.getElem?_eq_some_iff.1 hv).1;simpa using this
    have hp:g2.params[i]? = some g2.params[i]:=List.getElem?_eq_getElem hi;obtain⟨w,hw1,hw2⟩:=hV.par i g2.params[i] (by rw[hpl];exact hp);rw[htt] at hw1;injection hw1 with hw1
    rw[hw1,hw2];exact aeh H h hce hv hp
   ·rw[hV.res];exact c3
  ·cases hg
theorem acS{u:Unt}(H:UV u)(h:FrT u m.objs f)(hop:(zh (zb u f.fn) f.at_).op=9)(h3:(rdV (zb u f.fn) f.vals (zh (zb u f.fn) f.at_).a).1=3):∃k,af1 u m f k:=by
 have ht:=(jd H.u h.fn h.at_).typ;rw[acJ hop] at ht;obtain⟨hk1,hk2,g,hg,hst,hce⟩:=adU ht;have hR:=ke H.u h.fn h.at_;have hva:=h.rd (hR.a (by rw[hop];rfl) (Or.inl (by omega)));obtain⟨c,hrc,hsub⟩:=hva.ref h3;rw[hk2] at hsub;obtain⟨ko,hko,eo,eob,hoc⟩:=hrc.obj;obtain⟨j,k,hj,hk,e,hgm,hmem,hidx⟩:=xQ hg;obtain⟨j',k',hj',hk',e',hsg⟩:=H.v.inherit_look (zh (zb u f.fn) f.at_).name hsub hj hk e hmem hidx;rw[hgm] at hsg
 have hg':sgAt u.classes (zU u.classes c (zh (zb u f.fn) f.at_).name)=some u.classes[j'].methods[k']:=by
  rw[e'];unfold sgAt;rw[if_neg (by show ¬(j':Int)<0;omega)];simp only[Int.toNat_natCast,List.getElem?_eq_getElem hj',Option.bind_some];exact List.getElem?_eq_getElem hk'
 obtain⟨j2,k2,hj2,hk2',e2,hgm2,hmem2,-⟩:=xQ hg';rw[e'] at e2;injection e2 with e2a e2b
 have:j2=j':=by omega
 subst this;have hnm:=(aap hg').2;obtain⟨n,hn,hV⟩:=H.find (List.getElem_mem hj') (List.getElem_mem hk');rw[hnm] at hn
 have hd:kK u.classes u.funcs c (zh (zb u f.fn) f.at_).name=(n:Int):=by
  unfold kK;rw[hg'];show(if u.classes[j2].methods[k'].static=true then(-1:Int) else _)=_;rw[←hsg.stat,hst,if_neg (by simp),e',qh hj'];exact hn
 obtain⟨c1,_,c3⟩:=xn hce;have hpl:parL u.classes[j2].name u.classes[j2].methods[k']=u.classes[j2].name::g.params:=by unfold parL;rw[←hsg.stat,hst,hsg.par];rfl
 have hargs:yW (zb u f.fn) f (zh (zb u f.fn) f.at_)=rdV (zb u f.fn) f.vals (zh (zb u f.fn) f.at_).a::(zh (zb u f.fn) f.at_).args.map (rdV (zb u f.fn) f.vals):=by unfold yW;rw[if_pos hop];rfl
 have hsubc:hasS (zx u.classes c) u.classes[j2].name=true:=by
  rw[H.v.sub_iff,(H.v.cls j2 hj').first];exact hmem2
 refine⟨n,?_,hV.lt,?_,fun i v t hv htt=>?_,?_⟩
 ·unfold qS;rw[if_pos hop,eob,hoc];exact hd
 ·rw[hargs,List.length_cons,List.length_map,c1]
  have:=hV.le;rw[hpl,List.length_cons] at this;exact this
 ·rw[hargs] at hv
  cases i with
  |zero=>
   obtain⟨w,hw1,hw2⟩:=hV.par 0 u.classes[j2].name (by rw[hpl];rfl);rw[htt] at hw1;injection hw1 with hw1
   have hv':rdV (zb u f.fn) f.vals (zh (zb u f.fn) f.at_).a=v:=by injection hv
   rw[hw1,hw2,←hv'];refine Or.inr (Or.inr (Or.inr ⟨?_,c,hrc,hsubc⟩))
   cases hq:zu u.classes[j2].name with
   |false=>rfl
   |true=>
    have h1:=kJ.1 hq;have h2:=(H.v.cls j2 hj').first;rw[h1] at h2;exact absurd (show 0≤fnd u.classes intB by rw[h2];omega) H.n.i
  |succ i=>
   have hv':((zh (zb u f.fn) f.at_).args.map (rdV (zb u f.fn) f.vals))[i]? = some v:=hv;have hi:i<g.params.length:=by rw[←c1];have:=(List.getElem?_eq_some_iff.1 hv').1;simpa using this
   have hp:g.params[i]? = some g.params[i]:=List.getElem?_eq_getElem hi;obtain⟨w,hw1,hw2⟩:=hV.par (i+1) g.params[i] (by rw[hpl];exact hp);rw[htt] at hw1;injection hw1 with hw1
   rw[hw1,hw2];exact aeh H h hce hv' hp
 ·rw[hV.res,←hsg.res];exact c3
end
section
variable {u:Unt} {m:Mch} {f:Frm} {r:List Frm}
theorem aaD(h:(zh (zb u f.fn) f.at_).op=0):zS u m f r={ m with frs:=f.nx::r}:=by
 unfold zS;simp only[h]
 rfl
theorem aaE(h:(zh (zb u f.fn) f.at_).op=1):zS u m f r={ m with frs:=f.st (zh (zb u f.fn) f.at_).dst (1,(zh (zb u f.fn) f.at_).n,0)::r}:=by
 unfold zS;simp only[h]
 rfl
theorem aaF(h:(zh (zb u f.fn) f.at_).op=2):zS u m f r={ m with frs:=f.st (zh (zb u f.fn) f.at_).dst (2,0,0)::r}:=by
 unfold zS;simp only[h]
 rfl
theorem aaG(h:(zh (zb u f.fn) f.at_).op=3):zS u m f r={ m with frs:=f.st (zh (zb u f.fn) f.at_).dst (rdV (zb u f.fn) f.vals (zh (zb u f.fn) f.at_).a)::r}:=by
 unfold zS;simp only[h]
 rfl
theorem aaH(h:(zh (zb u f.fn) f.at_).op=4):zS u m f r={ m with frs:=f.st (zh (zb u f.fn) f.at_).dst (binV (rdV (zb u f.fn) f.vals (zh (zb u f.fn) f.at_).a) (rdV (zb u f.fn) f.vals (zh (zb u f.fn) f.at_).b) (zh (zb u f.fn) f.at_).n)::r}:=by
 unfold zS;simp only[h]
 rfl
theorem aaI(h:(zh (zb u f.fn) f.at_).op=5):zS u m f r={ m with inp:=m.inp.tail,frs:=f.st (zh (zb u f.fn) f.at_).dst (1,m.inp.headD 0,0)::r}:=by
 unfold zS;simp only[h]
 rfl
theorem aaJ(h:(zh (zb u f.fn) f.at_).op=6):zS u m f r={ m with objs:=m.objs++[qy u (zh (zb u f.fn) f.at_).cls],frs:=f.st (zh (zb u f.fn) f.at_).dst (3,(m.objs.length:Int),(siteNo u f.fn f.at_:Int))::r}:=by
 unfold zS;simp only[h]
 rfl
theorem aaK(h:(zh (zb u f.fn) f.at_).op=7):zS u m f r=if(rdV (zb u f.fn) f.vals (zh (zb u f.fn) f.at_).a).1=3 then{ m with frs:=f.st (zh (zb u f.fn) f.at_).dst ((kr m (rdV (zb u f.fn) f.vals (zh (zb u f.fn) f.at_).a)).val (zh (zb u f.fn) f.at_).name)::r} else{ m with en:=3}:=by
 unfold zS;simp only[h]
 rfl
theorem aaL(h:(zh (zb u f.fn) f.at_).op=8):zS u m f r=if(rdV (zb u f.fn) f.vals (zh (zb u f.fn) f.at_).a).1=3 then{ m with objs:=putO m (rdV (zb u f.fn) f.vals (zh (zb u f.fn) f.at_).a) (zh (zb u f.fn) f.at_).name (rdV (zb u f.fn) f.vals (zh (zb u f.fn) f.at_).b),frs:=f.nx::r} else{ m with en:=3}:=by
 unfold zS;simp only[h]
 rfl
theorem aaM(h:(zh (zb u f.fn) f.at_).op=9):zS u m f r=if(rdV (zb u f.fn) f.vals (zh (zb u f.fn) f.at_).a).1=3 then yO u m (zb u f.fn) f (zh (zb u f.fn) f.at_) else{ m with en:=3}:=by
 unfold zS;simp only[h]
 rfl
theorem xR(h:(zh (zb u f.fn) f.at_).op=10):zS u m f r=yO u m (zb u f.fn) f (zh (zb u f.fn) f.at_):=by
 unfold zS;simp only[h]
 rfl
theorem xS(h:(zh (zb u f.fn) f.at_).op=11):zS u m f r={ m with frs:=(if(rdV (zb u f.fn) f.vals (zh (zb u f.fn) f.at_).a).2.1=0 then f.nx else f.go (zh (zb u f.fn) f.at_).jmp)::r}:=by
 unfold zS;simp only[h]
 rfl
theorem xT(h:(zh (zb u f.fn) f.at_).op=12):zS u m f r={ m with frs:=f.go (zh (zb u f.fn) f.at_).jmp::r}:=by
 unfold zS;simp only[h]
 rfl
theorem xU(h:(zh (zb u f.fn) f.at_).op=13):zS u m f r=kD u m (zb u f.fn) f r (zh (zb u f.fn) f.at_):=by
 unfold zS;simp only[h]
 rfl
theorem xV(h:(zh (zb u f.fn) f.at_).op=14):zS u m f r=if(rdV (zb u f.fn) f.vals (zh (zb u f.fn) f.at_).a).1=3 then qH u m (rdV (zb u f.fn) f.vals (zh (zb u f.fn) f.at_).a) else{ m with en:=3}:=by
 unfold zS;simp only[h]
 rfl
theorem xW(h:(zh (zb u f.fn) f.at_).op=15):zS u m f r=if hasS (zx u.classes (kr m f.exc).cls) (zh (zb u f.fn) f.at_).cls=true then{ m with frs:=f.st (zh (zb u f.fn) f.at_).dst f.exc::r} else qH u m f.exc:=by
 unfold zS;simp only[h]
 rfl
theorem xX(h:(zh (zb u f.fn) f.at_).op=16):zS u m f r={ m with frs:=f.st (zh (zb u f.fn) f.at_).dst (1,wrap64 ((rdV (zb u f.fn) f.vals (zh (zb u f.fn) f.at_).a).2.1+(zh (zb u f.fn) f.at_).n),0)::r}:=by
 unfold zS;simp only[h]
 rfl
theorem WT.set(H:UV u)(hW:WT u m)(hf:m.frs=f::r)(h1:(zh (zb u f.fn) f.at_).op≠12)(h2:(zh (zb u f.fn) f.at_).op≠13)(h3:(zh (zb u f.fn) f.at_).op≠14)(hd:varB (zb u f.fn).vars.length (zh (zb u f.fn) f.at_).dst=true){v:Vl}(hv:VT u.classes (yg u) m.objs v (tyOf (zb u f.fn).vars (zh (zb u f.fn) f.at_).dst))(i':List Int)(n':Nat)(b':List Obv)(en':Int) :
  WT u ⟨i',m.objs,f.st (zh (zb u f.fn) f.at_).dst v::r,n',b',en'⟩:=by
 have hT:=hW.frs f (by rw[hf];simp);have hC:=(jz H.u hT.fn hT.at_).next h1 h2 h3;exact hW.top0 hf (f':=f.st (zh (zb u f.fn) f.at_).dst v) rfl (hT.st hd hv hC.1 hC.2) i' n' b' en'
theorem VT.isInt{cs:List Cls}{sites:List ByteArray}{objs:List Hob}{t:ByteArray}(a b:Int)(h:zu t=true):VT cs sites objs (1,a,b) t:=Or.inr (Or.inl ⟨rfl,h⟩)
theorem hop17(H:UV u)(hT:FrT u m.objs f):(zh (zb u f.fn) f.at_).op=0∨(zh (zb u f.fn) f.at_).op=1∨(zh (zb u f.fn) f.at_).op=2∨(zh (zb u f.fn) f.at_).op=3∨(zh (zb u f.fn) f.at_).op=4∨(zh (zb u f.fn) f.at_).op=5∨(zh (zb u f.fn) f.at_).op=6∨(zh (zb u f.fn) f.at_).op=7∨(zh (zb u f.fn) f.at_).op=8∨(zh (zb u f.fn) f.at_).op=9∨(zh (zb u f.fn) f.at_).op=10∨(zh (zb u f.fn) f.at_).op=11∨(zh (zb u f.fn) f.at_).op=12∨(zh (zb u f.fn) f.at_).op=13∨(zh (zb u f.fn) f.at_).op=14∨(zh (zb u f.fn) f.at_).op=15∨(zh (zb u f.fn) f.at_).op=16:=by
 have:=UntV.kindOp (jd H.u hT.fn hT.at_)
 omega
theorem VT.cls(H:UV u){objs:List Hob}{v:Vl}{c t:ByteArray}(hk:0≤fnd u.classes c)(hr:RefC (yg u) objs v c)(hs:hasS (zx u.classes c) c=true)(hf:zB u.classes c t=true):VT u.classes (yg u) objs v t:=by
 refine VT.fits H.v H.n (p:=c) (Or.inr (Or.inr (Or.inr ⟨?_,c,hr,hs⟩))) hf
 cases hq:zu c with
 |false=>rfl
 |true=>rw[kJ.1 hq] at hk;exact absurd hk H.n.i
theorem ahz(H:UV u){c:ByteArray}(hk:0≤fnd u.classes c):hasS (zx u.classes c) c=true:=by rw[H.v.sub_refl,decide_eq_true hk]
theorem aag{α β:Type}(g:α→List β):∀(l:List α) (k:Nat) (hk:k<l.length),l.flatMap g=(l.take k).flatMap g++(g l[k]++(l.drop (k+1)).flatMap g)
 |[],k,hk=>by simp at hk
 |x::l,0,hk=>by simp
 |x::l,k+1,hk=>by
  rw[List.flatMap_cons,aag g l k (by simpa using hk)]
  simp
theorem agM{α:Type}(p:α→Bool)(a b:List α)(x:α)(hx:p x=true):((a++x::b).filter p)[a.countP p]? = some x:=by
 rw[List.filter_append,List.filter_cons,if_pos hx,List.countP_eq_length_filter,List.getElem?_append_right (Nat.le_refl _),Nat.sub_self]
 rfl
theorem ahA{k i:Nat}(hk:k<u.funcs.length)(hi:i<(zb u k).code.length)(h:(zh (zb u k) i).op=6):(yg u)[siteNo u k i]? = some (zh (zb u k) i).cls:=by
 unfold yg siteNo
 have e:u.funcs.flatMap (·.code)=((u.funcs.take k).flatMap (·.code)++(zb u k).code.take i)++zh (zb u k) i::((zb u k).code.drop (i+1)++(u.funcs.drop (k+1)).flatMap (·.code)):=by
  rw[aag _ u.funcs k hk,←zv hk,zQ hi]
  have:(zb u k).code=(zb u k).code.take i++(zb u k).code[i]::(zb u k).code.drop (i+1):=by
   rw[List.getElem_cons_drop,List.take_append_drop]
  rw[List.append_assoc]
  congr 1
  rw[←List.cons_append,←List.append_assoc,←this]
 rw[List.getElem?_map,e,←List.countP_append,agM jx _ _ _ (by unfold jx;rw[h];rfl)]
 rfl
theorem WT.call(H:UV u)(hW:WT u m)(hf:m.frs=f::r)(hen:m.en=0)(hop:(zh (zb u f.fn) f.at_).op=9∨(zh (zb u f.fn) f.at_).op=10){k:Nat}(hV:af1 u m f k):WT u (yO u m (zb u f.fn) f (zh (zb u f.fn) f.at_)):=by
 unfold yO
 split
 ·exact hW.ended 5 (by decide)
 ·rename_i h64
  have hT:=hW.frs f (by rw[hf];simp);obtain⟨p,hp,hF⟩:=qA H.u hV.lt;have hfn:(abM u m (qS u m (zb u f.fn) f (zh (zb u f.fn) f.at_)).toNat ((m.obs.length:Int)-1) (yW (zb u f.fn) f (zh (zb u f.fn) f.at_))).fn=k:=by show(qS u m (zb u f.fn) f (zh (zb u f.fn) f.at_)).toNat=k;rw[hV.callee,Int.toNat_natCast]
  rw[show(qS u m (zb u f.fn) f (zh (zb u f.fn) f.at_)).toNat=k by rw[hV.callee,Int.toNat_natCast]];refine⟨fun g hg=>?_,?_,?_,hW.objc,hW.objf,fun _ h=>by cases h⟩
  ·rcases List.mem_cons.1 hg with rfl|hg
   ·refine⟨hV.lt,hF.cl0,?_,fun i v t hv ht=>?_,fun hc=>?_⟩
    ·show(yW _ _ _++List.replicate _ _).length=_
     rw[List.length_append,List.length_replicate];have:=hV.len;show _+((zb u k).vars.length-_)=(zb u k).vars.length
     omega
    ·have hv':(yW (zb u f.fn) f (zh (zb u f.fn) f.at_)++List.replicate ((zb u k).vars.length-(yW (zb u f.fn) f (zh (zb u f.fn) f.at_)).length) (0,0,0))[i]? = some v:=hv
     by_cases hi:i<(yW (zb u f.fn) f (zh (zb u f.fn) f.at_)).length
     ·rw[List.getElem?_append_left hi] at hv'
      exact hV.args i v t hv' ht
     ·rw[List.getElem?_append_right (by omega)] at hv'
      rw[(List.mem_replicate.1 (List.mem_of_getElem? hv')).2];exact VT.none _
    ·have hc':zL (zb u k).code ((0:Nat):Int)=true:=hc
     have hx:=(jd H.u hV.lt hF.cl0).ctl;unfold ctlB at hx;rw[qJ hF.cl0,decide_eq_true_eq] at hc';rw[zQ hF.cl0] at hx;simp only[Bool.and_eq_true] at hx;rw[hc'] at hx;exact absurd hx.2 (by decide)
   ·exact hW.frs g hg
  ·rw[hf]
   have hch:=hW.chain;rw[hf] at hch;exact⟨⟨hop,hV.dst⟩,hch⟩
  ·rw[List.length_cons];omega
theorem abN(e:Vl){c:ByteArray}:∀(l:List Frm),(∀g∈l,FrT u m.objs g)→jZ u l→UV u→RefC (yg u) m.objs e c→(∀g∈yI u e l,FrT u m.objs g)∧jZ u (yI u e l)∧(yI u e l).length≤l.length
 |[],_,_,_,_=>⟨fun g hg=>(by cases hg),trivial,Nat.le_refl _⟩
 |g::r,h,hc,H,he=>by
  unfold yI
  split
  ·obtain⟨h1,h2,h3⟩:=abN e r (fun x hx=>h x (by simp[hx])) hc.tail H he
   exact⟨h1,h2,by rw[List.length_cons];omega⟩
  ·rename_i hh
   have hT:=h g (by simp);obtain⟨j0,j1⟩:=(jz H.u hT.fn hT.at_).hnd hh;refine⟨fun x hx=>?_,hc.head rfl,by rw[List.length_cons,List.length_cons];omega⟩
   rcases List.mem_cons.1 hx with rfl|hx
   ·exact hT.catch j0 j1 he
   ·exact h x (by simp[hx])
theorem WT.raise(H:UV u)(hW:WT u m){e:Vl}{c:ByteArray}(he:RefC (yg u) m.objs e c):WT u (qH u m e):=by
 obtain⟨h1,h2,h3⟩:=abN e m.frs hW.frs hW.chain H he;refine⟨h1,h2,Nat.le_trans h3 hW.cnt,hW.objc,hW.objf,fun h hn=>?_⟩;have h':(if(yI u e m.frs).isEmpty then(2:Int) else m.en)=0:=h;have hn':yI u e m.frs=[]:=hn;rw[hn'] at h';exact absurd h' (show ¬(2:Int)=0 by decide)
theorem WT.leave(H:UV u)(hW:WT u m)(hf:m.frs=f::r)(hop:(zh (zb u f.fn) f.at_).op=13):WT u (kD u m (zb u f.fn) f r (zh (zb u f.fn) f.at_)):=by
 have hT:=hW.frs f (by rw[hf];simp);have hfr:=hW.frs;have hch:=hW.chain;have hct:=hW.cnt;rw[hf] at hfr hch hct
 cases r with
 |nil=>exact⟨fun g hg=>(by cases hg),trivial,(by show(0:Nat)≤64;omega),hW.objc,hW.objf,fun h=>absurd h (show ¬(1:Int)=0 by decide)⟩
 |cons g r'=>
  obtain⟨hL,hch2⟩:=hch;have hG:=hfr g (by simp);have hcg:(zh (zb u g.fn) g.at_).op≠12∧(zh (zb u g.fn) g.at_).op≠13∧(zh (zb u g.fn) g.at_).op≠14:=by rcases hL.call with h|h<;>omega
  have hC:=(jz H.u hG.fn hG.at_).next hcg.1 hcg.2.1 hcg.2.2
  have hbk:FrT u m.objs (g.back u (retV (zb u f.fn) f (zh (zb u f.fn) f.at_)))∧(g.back u (retV (zb u f.fn) f (zh (zb u f.fn) f.at_))).fn=g.fn:=by
   unfold Frm.back
   split
   ·exact⟨hG.nx hC.1 hC.2,rfl⟩
   ·rename_i hd
    refine⟨hG.st ((ke H.u hG.fn hG.at_).dc (by rcases hL.call with h|h<;>(rw[h];rfl)) hd) ?_ hC.1 hC.2,rfl⟩
    rcases hL.dst with h|⟨h1,h2⟩
    ·exact absurd h hd
    ·refine VT.fits H.v H.n (p:=(zb u f.fn).result) ?_ h2
     have ht:=(jd H.u hT.fn hT.at_).typ;unfold insT at ht;simp only[hop] at ht;have ht':(if(decide ((zh (zb u f.fn) f.at_).a = -1) != (zb u f.fn).result.toList.isEmpty)=true then(9:Int) else zM (decide ((zh (zb u f.fn) f.at_).a = -1)||zB u.classes (tyOf (zb u f.fn).vars (zh (zb u f.fn) f.at_).a) (zb u f.fn).result))=0:=ht;rw[h1] at ht';unfold retV
     split
     ·exact VT.none _
     ·rename_i ha
      rw[decide_eq_false ha,if_neg (by decide),Bool.false_or] at ht';exact(hT.rd ((ke H.u hT.fn hT.at_).a (by rw[hop];rfl) (Or.inr ha))).fits H.v H.n (qi ht')
  refine⟨fun x hx=>?_,?_,?_,hW.objc,hW.objf,fun _ h=>by cases h⟩
  ·rcases List.mem_cons.1 hx with rfl|hx
   ·exact hbk.1
   ·exact hfr x (by simp[hx])
  ·exact hch2.head hbk.2
  ·show(_::r').length≤64
   simp only[List.length_cons] at hct ⊢
   omega
theorem agN{cs:List Cls}{vars:List Fld}{res:ByteArray}{x:Ins}(h:x.op=1∨x.op=5):insT cs vars res x=zM (zu (tyOf vars x.dst)):=by rcases h with h|h<;>simp[insT,h]
theorem aji{cs:List Cls}{vars:List Fld}{res:ByteArray}{x:Ins}(h:x.op=2):insT cs vars res x=zM (!zu (tyOf vars x.dst)):=by simp[insT,h]
theorem ajj{cs:List Cls}{vars:List Fld}{res:ByteArray}{x:Ins}(h:x.op=3):insT cs vars res x=zM (zB cs (tyOf vars x.a) (tyOf vars x.dst)):=by simp[insT,h]
theorem ajk{cs:List Cls}{vars:List Fld}{res:ByteArray}{x:Ins}(h:x.op=4):insT cs vars res x=zM (zu (tyOf vars x.dst)&&(zu (tyOf vars x.a)&&zu (tyOf vars x.b)||decide (x.n=5) && !zu (tyOf vars x.a) && !zu (tyOf vars x.b))):=by simp[insT,h]
theorem aiI{cs:List Cls}{vars:List Fld}{res:ByteArray}{x:Ins}(h:x.op=16):insT cs vars res x=zM (zu (tyOf vars x.a)&&zu (tyOf vars x.dst)):=by simp[insT,h]
theorem xY(H:UV u)(hT:FrT u m.objs f){T:ByteArray}(hc:(zz u.classes T (zh (zb u f.fn) f.at_).name).2.2=true){c:ByteArray}(hs:hasS (zx u.classes c) T=true):zz u.classes c (zh (zb u f.fn) f.at_).name=zz u.classes T (zh (zb u f.fn) f.at_).name:=H.v.inherit_field _ hs hc
theorem WT.step(H:UV u)(hW:WT u m)(hf:m.frs=f::r)(hen:m.en=0):WT u (zS u m f r):=by
 have hT:=hW.frs f (by rw[hf];simp);have hR:=ke H.u hT.fn hT.at_;have hC:=jz H.u hT.fn hT.at_;have ht:=(jd H.u hT.fn hT.at_).typ
 rcases hop17 H hT with h|h|h|h|h|h|h|h|h|h|h|h|h|h|h|h|h
 ·rw[aaD h]
  have:=hC.next (by omega) (by omega) (by omega);exact hW.top0 hf (f':=f.nx) rfl (hT.nx this.1 this.2) _ _ _ _
 ·rw[aaE h]
  rw[agN (Or.inl h)] at ht;exact hW.set H hf (by omega) (by omega) (by omega) (hR.d (by rw[h];rfl) (by rw[h];rfl)) (VT.isInt _ _ (qi ht)) _ _ _ _
 ·rw[aaF h]
  rw[aji h] at ht;exact hW.set H hf (by omega) (by omega) (by omega) (hR.d (by rw[h];rfl) (by rw[h];rfl)) (Or.inr (Or.inr (Or.inl ⟨rfl,rfl,by have:=qi ht;simpa using this⟩))) _ _ _ _
 ·rw[aaG h]
  rw[ajj h] at ht;exact hW.set H hf (by omega) (by omega) (by omega) (hR.d (by rw[h];rfl) (by rw[h];rfl)) ((hT.rd (hR.a (by rw[h];rfl) (Or.inl (by omega)))).fits H.v H.n (qi ht)) _ _ _ _
 ·rw[aaH h]
  rw[ajk h] at ht;have hi:=qi ht;rw[Bool.and_eq_true] at hi;refine hW.set H hf (by omega) (by omega) (by omega) (hR.d (by rw[h];rfl) (by rw[h];rfl)) ?_ _ _ _ _;unfold binV
  split<;>exact VT.isInt _ _ hi.1
 ·rw[aaI h]
  rw[agN (Or.inr h)] at ht;exact hW.set H hf (by omega) (by omega) (by omega) (hR.d (by rw[h];rfl) (by rw[h];rfl)) (VT.isInt _ _ (qi ht)) _ _ _ _
 ·rw[aaJ h]
  rw[abc (Or.inl h)] at ht
  split at ht
  ·cases ht
  rename_i hk
  have hnx:=hC.next (by omega) (by omega) (by omega);have hm:∀k (hk:k<m.objs.length),∃hk':k<(m.objs++[qy u (zh (zb u f.fn) f.at_).cls]).length,(m.objs++[qy u (zh (zb u f.fn) f.at_).cls])[k].cls=m.objs[k].cls:=fun k hk=>⟨by simp;omega,by rw[List.getElem_append_left hk]⟩
  have hlast:∀k (hk:k<(m.objs++[qy u (zh (zb u f.fn) f.at_).cls]).length),(∃h:k<m.objs.length,(m.objs++[qy u (zh (zb u f.fn) f.at_).cls])[k]=m.objs[k])∨(m.objs++[qy u (zh (zb u f.fn) f.at_).cls])[k]=qy u (zh (zb u f.fn) f.at_).cls:=fun k hk=>by
   by_cases hl:k<m.objs.length
   ·exact Or.inl ⟨hl,List.getElem_append_left hl⟩
   ·right
    rw[List.getElem_append_right (by omega)]
    simp
  refine hW.top hf hm (fun k hk'=>?_) (fun k hk' n hn=>?_) (f':=f.st (zh (zb u f.fn) f.at_).dst (3,(m.objs.length:Int),(siteNo u f.fn f.at_:Int))) rfl ((hT.mono hm).st (hR.d (by rw[h];rfl) (by rw[h];rfl)) (VT.cls H (by omega) ⟨rfl,⟨m.objs.length,rfl,by simp,by simp[qy]⟩,siteNo u f.fn f.at_,rfl,ahA hT.fn hT.at_ h⟩ (ahz H (by omega)) (qi ht)) hnx.1 hnx.2) _ _ _ _
  ·rcases hlast k hk' with⟨hl,e⟩|e
   ·rw[e];exact hW.objc k hl
   ·rw[e];show 0≤fnd u.classes (zh (zb u f.fn) f.at_).cls;omega
  ·rcases hlast k hk' with⟨hl,e⟩|e
   ·rw[e] at hn ⊢;exact(hW.objf k hl n hn).mono hm
   ·rw[e];exact VT.ini _
 ·rw[aaK h]
  split
  ·rename_i h3
   rw[jX (Or.inl h)] at ht;obtain⟨h1,h2⟩:=kz ht
   have hfit:zB u.classes (zz u.classes (tyOf (zb u f.fn).vars (zh (zb u f.fn) f.at_).a) (zh (zb u f.fn) f.at_).name).2.1 (tyOf (zb u f.fn).vars (zh (zb u f.fn) f.at_).dst)=true:=by
    unfold qg at ht;rw[h1,h2,if_neg (by decide),if_neg (by decide),if_pos h] at ht;exact qi ht
   obtain⟨c,hrc,hsub⟩:=(hT.rd (hR.a (by rw[h];rfl) (Or.inl (by omega)))).ref h3;obtain⟨k,hk,e,eo,ec⟩:=hrc.obj;have hfe:=xY H hT h2 hsub;refine hW.set H hf (by omega) (by omega) (by omega) (hR.d (by rw[h];rfl) (by rw[h];rfl)) ?_ _ _ _ _;rw[eo];refine VT.fits H.v H.n ?_ hfit;have:=hW.objf k hk (zh (zb u f.fn) f.at_).name (by rw[ec,hfe];exact h2);rw[ec,hfe] at this;exact this
  ·exact hW.ended 3 (by decide)
 ·rw[aaL h]
  split
  ·rename_i h3
   rw[jX (Or.inr h)] at ht;obtain⟨h1,h2⟩:=kz ht
   have hfit:zB u.classes (tyOf (zb u f.fn).vars (zh (zb u f.fn) f.at_).b) (zz u.classes (tyOf (zb u f.fn).vars (zh (zb u f.fn) f.at_).a) (zh (zb u f.fn) f.at_).name).2.1=true:=by
    unfold qg at ht;rw[h1,h2,if_neg (by decide),if_neg (by decide),if_neg (by omega)] at ht;exact qi ht
   obtain⟨c,hrc,hsub⟩:=(hT.rd (hR.a (by rw[h];rfl) (Or.inl (by omega)))).ref h3;obtain⟨k,hk,e,eo,ec⟩:=hrc.obj;have hfe:=xY H hT h2 hsub;have hvb:=(hT.rd (hR.b (by rw[h];rfl))).fits H.v H.n hfit;have hnx:=hC.next (by omega) (by omega) (by omega);have hpo:putO m (rdV (zb u f.fn) f.vals (zh (zb u f.fn) f.at_).a) (zh (zb u f.fn) f.at_).name (rdV (zb u f.fn) f.vals (zh (zb u f.fn) f.at_).b)=m.objs.set k ⟨c,fun q=>if q=(zh (zb u f.fn) f.at_).name then(rdV (zb u f.fn) f.vals (zh (zb u f.fn) f.at_).b) else m.objs[k].val q⟩:=by unfold putO;rw[eo,ec,e,Int.toNat_natCast]
   rw[hpo]
   have hm:∀j (hj:j<m.objs.length),∃hj':j<(m.objs.set k ⟨c,fun q=>if q=(zh (zb u f.fn) f.at_).name then(rdV (zb u f.fn) f.vals (zh (zb u f.fn) f.at_).b) else m.objs[k].val q⟩).length,(m.objs.set k ⟨c,fun q=>if q=(zh (zb u f.fn) f.at_).name then(rdV (zb u f.fn) f.vals (zh (zb u f.fn) f.at_).b) else m.objs[k].val q⟩)[j].cls=m.objs[j].cls:=fun j hj=>⟨by rw[List.length_set];exact hj,by
    rw[List.getElem_set]
    split
    ·rename_i e;subst e;exact ec.symm
    ·rfl⟩
   refine hW.top hf hm (fun j hj=>?_) (fun j hj n hn=>?_) (f':=f.nx) rfl ((hT.mono hm).nx hnx.1 hnx.2) _ _ _ _
   ·have hj':j<m.objs.length:=by rwa[List.length_set] at hj
    obtain⟨_,e⟩:=hm j hj';rw[e];exact hW.objc j hj'
   ·have hj':j<m.objs.length:=by rwa[List.length_set] at hj
    by_cases ej:k=j
    ·subst ej
     rw[List.getElem_set_self] at hn ⊢;show VT _ _ _ (if n=(zh (zb u f.fn) f.at_).name then(rdV (zb u f.fn) f.vals (zh (zb u f.fn) f.at_).b) else m.objs[k].val n) _
     split
     ·rename_i en
      subst en;have hvb':=hvb.mono hm;rw[←hfe] at hvb';exact hvb'
     ·have hn':(zz u.classes c n).2.2=true:=hn
      have:=hW.objf k hk n (by rw[ec];exact hn');rw[ec] at this;exact this.mono hm
    ·rw[List.getElem_set_ne ej] at hn ⊢
     exact(hW.objf j hj' n hn).mono hm
  ·exact hW.ended 3 (by decide)
 ·rw[aaM h]
  split
  ·rename_i h3
   obtain⟨k,hV⟩:=acS H hT h h3;exact hW.call H hf hen (Or.inl h) hV
  ·exact hW.ended 3 (by decide)
 ·rw[xR h]
  obtain⟨k,hV⟩:=acR H hT h;exact hW.call H hf hen (Or.inr h) hV
 ·rw[xS h]
  have hnx:=hC.next (by omega) (by omega) (by omega);obtain⟨j0,j1,j2⟩:=hC.jump (Or.inl h)
  split
  ·exact hW.top0 hf (f':=f.nx) rfl (hT.nx hnx.1 hnx.2) _ _ _ _
  ·exact hW.top0 hf (f':=f.go (zh (zb u f.fn) f.at_).jmp) rfl (hT.go j0 j1 j2) _ _ _ _
 ·rw[xT h]
  obtain⟨j0,j1,j2⟩:=hC.jump (Or.inr h);exact hW.top0 hf (f':=f.go (zh (zb u f.fn) f.at_).jmp) rfl (hT.go j0 j1 j2) _ _ _ _
 ·rw[xU h]
  exact hW.leave H hf h
 ·rw[xV h]
  split
  ·rename_i h3
   obtain⟨c,hrc,_⟩:=(hT.rd (hR.a (by rw[h];rfl) (Or.inl (by omega)))).ref h3;exact hW.raise H hrc
  ·exact hW.ended 3 (by decide)
 ·rw[xW h]
  obtain⟨c,hrc⟩:=hT.exc (by rw[qJ hT.at_,decide_eq_true_eq,←zQ hT.at_];exact h)
  split
  ·rename_i hs
   obtain⟨k,hk,e,eo,ec⟩:=hrc.obj;rw[eo,ec] at hs;rw[abc (Or.inr h)] at ht
   split at ht
   ·cases ht
   rename_i hk0
   refine hW.set H hf (by omega) (by omega) (by omega) (hR.d (by rw[h];rfl) (by rw[h];rfl)) ?_ _ _ _ _;refine VT.fits H.v H.n (p:=(zh (zb u f.fn) f.at_).cls) (Or.inr (Or.inr (Or.inr ⟨?_,c,hrc,hs⟩))) (qi ht)
   cases hq:zu (zh (zb u f.fn) f.at_).cls with
   |false=>rfl
   |true=>rw[kJ.1 hq] at hk0;exact absurd (show 0≤fnd u.classes intB by omega) H.n.i
  ·exact hW.raise H hrc
 ·rw[xX h]
  rw[aiI h] at ht;have:=qi ht;rw[Bool.and_eq_true] at this;exact hW.set H hf (by omega) (by omega) (by omega) (hR.d (by rw[h];rfl) (by rw[h];rfl)) (VT.isInt _ _ this.2) _ _ _ _
end
def VS(u:Unt)(v:Vl)(t:ByteArray):Prop:=
 v=(0,0,0)∨(v.1=1∧zu t=true)∨(v.1=2∧v.2.1=0∧zu t=false)∨(v.1=3∧∃s:Nat,v.2.2=(s:Int)∧∃c,(yg u)[s]? = some c∧hasS (zx u.classes c) t=true)
theorem VT.vs{u:Unt}{objs:List Hob}{v:Vl}{t:ByteArray}(h:VT u.classes (yg u) objs v t):VS u v t:=by
 rcases h with h|h|h|⟨h1,c,⟨h2,_,s,h3,h4⟩,h5⟩
 ·exact Or.inl h
 ·exact Or.inr (Or.inl h)
 ·exact Or.inr (Or.inr (Or.inl h))
 ·exact Or.inr (Or.inr (Or.inr ⟨h2,s,h3,c,h4,h5⟩))
structure ObT(u:Unt)(o:Obv):Prop where
 fn:o.fn<u.funcs.length
 at_:o.at_<(zb u o.fn).code.length
 len:o.vals.length=(zb u o.fn).vars.length
 vals:∀(i:Nat) (v:Vl) (t:Fld),o.vals[i]? = some v→(zb u o.fn).vars[i]? = some t→VS u v t.typ
def obOf(f:Frm):Obv:=⟨f.fn,f.at_,f.no,f.call,f.vals⟩
theorem FrT.ob{u:Unt}{objs:List Hob}{f:Frm}(h:FrT u objs f):ObT u (obOf f):=⟨h.fn,h.at_,h.len,fun i v t hv ht=>(h.vals i v t hv ht).vs⟩
def ys:List Obv→Nat→Option Obv
 |[],_=>none
 |o::l,n=>match ys l n with
  |some p=>some p
  |none=>if o.no=n then some o else none
theorem aa1(l:List Obv)(o:Obv)(n:Nat):ys (l++[o]) n=if o.no=n then some o else ys l n:=by
 induction l with
 |nil=>simp[ys]
 |cons p l ih=>
  rw[List.cons_append,ys,ih]
  by_cases h:o.no=n
  ·rw[if_pos h,if_pos h]
  ·rw[if_neg h,if_neg h,ys]
theorem aeW{l:List Obv}{n:Nat}(h:∀o∈l,o.no<n):ys l n=none:=by
 induction l with
 |nil=>rfl
 |cons p l ih=>
  rw[ys,ih (fun o ho=>h o (by simp[ho]))];have:=h p (by simp);show(if p.no=n then some p else none)=none;rw[if_neg (by omega)]
def jg(F:Fun)(i j:Nat):Prop:=((zh F i).op≠12∧(zh F i).op≠13∧(zh F i).op≠14∧j=i+1)∨(((zh F i).op=11∨(zh F i).op=12)∧(zh F i).jmp=(j:Int))
def adq(F:Fun)(i j:Nat):Prop:=((zh F i).op=9∨(zh F i).op=10∨(zh F i).op=14∨(zh F i).op=15)∧(zh F i).hnd=(j:Int)
def defP(x:Ins):Int:=if zp x.op 100=true then x.dst else -1
structure MovP(u:Unt)(p:Obv)(at_:Nat)(vals:List Vl):Prop where
 tgt:jg (zb u p.fn) p.at_ at_∨adq (zb u p.fn) p.at_ at_
 vals:∀i:Nat,vals[i]? = p.vals[i]?∨((i:Int)=defP (zh (zb u p.fn) p.at_)∧jg (zb u p.fn) p.at_ at_)
structure FolP(u:Unt)(l:List Obv)(o:Obv):Prop where
 main:l=[]→o.fn=u.main.toNat∧o.at_=0∧o.no=0∧o.call = -1
 call : -1≤o.call∧o.call<(l.length:Int)
 old:∀p,ys l o.no=some p→p.fn=o.fn∧p.call=o.call∧MovP u p o.at_ o.vals
 new:ys l o.no=none→o.at_=0∧o.call=(l.length:Int)-1
def AtOb(l:List Obv)(g:Frm):Prop:=ys l g.no=some (obOf g)
structure Hist(u:Unt)(m:Mch):Prop where
 nof:∀f∈m.frs,f.no<m.made
 noo:∀o∈m.obs,o.no<m.made
 nod:(m.frs.map (·.no)).Nodup
 call:∀f∈m.frs,-1≤f.call∧f.call<(m.obs.length:Int)
 wait:∀f∈m.frs.tail,AtOb m.obs f
 main:m.obs=[]→∀f,m.frs.head? = some f→f.fn=u.main.toNat∧f.at_=0∧f.no=0∧f.call = -1
 top:∀f,m.frs.head? = some f→(ys m.obs f.no=none→f.at_=0∧f.call=(m.obs.length:Int)-1)∧∀p,ys m.obs f.no=some p→p.fn=f.fn∧p.call=f.call∧MovP u p f.at_ f.vals
def AllF(u:Unt)(l:List Obv):Prop:=∀i o,l[i]? = some o→FolP u (l.take i) o∧ObT u o
theorem AllF.snoc{u:Unt}{l:List Obv}{o:Obv}(h:AllF u l)(ho:FolP u l o)(ht:ObT u o):AllF u (l++[o]):=by
 intro i p hp
 by_cases hi:i<l.length
 ·rw[List.getElem?_append_left hi] at hp
  rw[List.take_append_of_le_length (by omega)];exact h i p hp
 ·have hl:=(List.getElem?_eq_some_iff.1 hp).1
  rw[List.length_append,List.length_singleton] at hl;have:i=l.length:=by omega
  subst this;rw[List.getElem?_append_right (Nat.le_refl _),Nat.sub_self] at hp;injection hp with hp
  subst hp;rw[List.take_left']
  ·exact⟨ho,ht⟩
  ·rfl
section
variable {u:Unt} {m:Mch} {f:Frm} {r:List Frm}
theorem Hist.fol(h:Hist u m)(hf:m.frs=f::r):FolP u m.obs (obOf f):=by
 have hh:m.frs.head? = some f:=by rw[hf];rfl
 refine⟨fun hl=>h.main hl f hh,?_,fun p hp=>(h.top f hh).2 p hp,fun hn=>(h.top f hh).1 hn⟩;exact h.call f (by rw[hf];simp)
theorem Hist.atAll(h:Hist u m)(hf:m.frs=f::r):∀g∈f::r,AtOb (m.obs++[obOf f]) g:=by
 have hn:=h.nod;have hw:=h.wait;rw[hf] at hn hw;rw[List.map_cons,List.nodup_cons] at hn;intro g hg;unfold AtOb;rw[aa1]
 rcases List.mem_cons.1 hg with rfl|hg
 ·exact if_pos rfl
 ·rw[if_neg (fun e=>hn.1 (by rw[show f.no=g.no from e];exact List.mem_map.2 ⟨g,hg,rfl⟩))]
  exact hw g hg
theorem acc{l:List Obv}{made:Nat}{g:Frm}{q:List Frm}(hn1:∀x∈g::q,x.no<made)(hn2:∀o∈l,o.no<made)(hnd:((g::q).map (·.no)).Nodup)(hc:∀x∈g::q,-1≤x.call∧x.call<(l.length:Int))
  (hw:∀x∈q,AtOb l x) (hl:l≠[]) (ht:(ys l g.no=none→g.at_=0∧g.call=(l.length:Int)-1)∧∀p,ys l g.no=some p→p.fn=g.fn∧p.call=g.call∧MovP u p g.at_ g.vals) {i':List Int} {o':List Hob} {en:Int} :
  Hist u ⟨i',o',g::q,made,l,en⟩:=
 ⟨hn1,hn2,hnd,hc,hw,fun h=>absurd h hl,fun x hx=>by
  have hx':some g=some x:=hx;injection hx' with hx'
  subst hx';exact ht⟩
theorem Hist.moved(h:Hist u m)(hf:m.frs=f::r){f':Frm}(e1:f'.fn=f.fn)(e2:f'.no=f.no)(e3:f'.call=f.call)(hm:MovP u (obOf f) f'.at_ f'.vals)(i':List Int)(o':List Hob)(en:Int):Hist u ⟨i',o',f'::r,m.made,m.obs++[obOf f],en⟩:=by
 have ha:=h.atAll hf;have h1:=h.nof;have h2:=h.nod;have h3:=h.call;rw[hf] at h1 h2 h3;refine acc (fun x hx=>?_) (fun o ho=>?_) (by simpa[e2] using h2) (fun x hx=>?_) (fun x hx=>ha x (by simp[hx])) (by simp) ?_
 ·rcases List.mem_cons.1 hx with rfl|hx
  ·rw[e2];exact h1 f (by simp)
  ·exact h1 x (by simp[hx])
 ·rcases List.mem_append.1 ho with ho|ho
  ·exact h.noo o ho
  ·rw[List.mem_singleton.1 ho];exact h1 f (by simp)
 ·rw[List.length_append,List.length_singleton]
  rcases List.mem_cons.1 hx with rfl|hx
  ·rw[e3];have:=h3 f (by simp);omega
  ·have:=h3 x (by simp[hx]);omega
 ·have hl:ys (m.obs++[obOf f]) f'.no=some (obOf f):=by rw[e2];exact ha f (by simp)
  rw[hl]
  exact⟨fun h=>(by cases h),fun p hp=>by
   injection hp with hp
   subst hp;exact⟨e1.symm,e3.symm,hm⟩⟩
theorem abO(h1:(zh (zb u f.fn) f.at_).op≠12)(h2:(zh (zb u f.fn) f.at_).op≠13)(h3:(zh (zb u f.fn) f.at_).op≠14):MovP u (obOf f) f.nx.at_ f.nx.vals:=⟨Or.inl (Or.inl ⟨h1,h2,h3,rfl⟩),fun i=>Or.inl rfl⟩
theorem jA{v:Vl}(hd:zp (zh (zb u f.fn) f.at_).op 100=true)(h0:0≤(zh (zb u f.fn) f.at_).dst)(h1:(zh (zb u f.fn) f.at_).op≠12)(h2:(zh (zb u f.fn) f.at_).op≠13)(h3:(zh (zb u f.fn) f.at_).op≠14):MovP u (obOf f) (f.st (zh (zb u f.fn) f.at_).dst v).at_ (f.st (zh (zb u f.fn) f.at_).dst v).vals:=by
 have hn:jg (zb u f.fn) f.at_ (f.at_+1):=Or.inl ⟨h1,h2,h3,rfl⟩;refine⟨Or.inl hn,fun i=>?_⟩;show(f.vals.set (zh (zb u f.fn) f.at_).dst.toNat v)[i]? = f.vals[i]?∨_
 by_cases e:(zh (zb u f.fn) f.at_).dst.toNat=i
 ·right
  refine⟨?_,hn⟩;show(i:Int)=defP (zh (zb u f.fn) f.at_);unfold defP;rw[if_pos hd]
  omega
 ·left
  rw[List.getElem?_set_ne e]
theorem agO(h:(zh (zb u f.fn) f.at_).op=11∨(zh (zb u f.fn) f.at_).op=12)(h0:0≤(zh (zb u f.fn) f.at_).jmp):MovP u (obOf f) (f.go (zh (zb u f.fn) f.at_).jmp).at_ (f.go (zh (zb u f.fn) f.at_).jmp).vals:=
 ⟨Or.inl (Or.inr ⟨h,(by show(zh (zb u f.fn) f.at_).jmp=(((zh (zb u f.fn) f.at_).jmp).toNat:Int);omega)⟩),fun i=>Or.inl rfl⟩
theorem Hist.back(h:Hist u m)(hf:m.frs=f::r){g:Frm}{q:List Frm}(hs:∃a,f::r=a++g::q){g':Frm}(e1:g'.fn=g.fn)(e2:g'.no=g.no)(e3:g'.call=g.call)(hm:MovP u (obOf g) g'.at_ g'.vals)(i':List Int)(o':List Hob)(en:Int):Hist u ⟨i',o',g'::q,m.made,m.obs++[obOf f],en⟩:=by
 obtain⟨a,ha'⟩:=hs;have ha:=h.atAll hf;have h1:=h.nof;have h2:=h.nod;have h3:=h.call;have h4:∀x∈g::q,x∈f::r:=fun x hx=>by rw[ha'];exact List.mem_append_right _ hx
 rw[hf] at h1 h2 h3
 have h5:((g::q).map (·.no)).Nodup:=by
  rw[ha',List.map_append] at h2;exact(List.nodup_append.1 h2).2.1
 refine acc (fun x hx=>?_) (fun o ho=>?_) (by simpa[e2] using h5) (fun x hx=>?_) (fun x hx=>ha x (h4 x (by simp[hx]))) (by simp) ?_
 ·rcases List.mem_cons.1 hx with rfl|hx
  ·rw[e2];exact h1 g (h4 g (by simp))
  ·exact h1 x (h4 x (by simp[hx]))
 ·rcases List.mem_append.1 ho with ho|ho
  ·exact h.noo o ho
  ·rw[List.mem_singleton.1 ho];exact h1 f (by simp)
 ·rw[List.length_append,List.length_singleton]
  rcases List.mem_cons.1 hx with rfl|hx
  ·rw[e3];have:=h3 g (h4 g (by simp));omega
  ·have:=h3 x (h4 x (by simp[hx]));omega
 ·have hl:ys (m.obs++[obOf f]) g'.no=some (obOf g):=by rw[e2];exact ha g (h4 g (by simp))
  rw[hl]
  exact⟨fun h=>(by cases h),fun p hp=>by
   injection hp with hp
   subst hp;exact⟨e1.symm,e3.symm,hm⟩⟩
theorem acT(e:Vl):∀(l:List Frm),yI u e l=[]∨∃a g q,l=a++g::q∧yI u e l={ g.go (zh (zb u g.fn) g.at_).hnd with exc:=e}::q∧(zh (zb u g.fn) g.at_).hnd≠ -1
 |[]=>Or.inl rfl
 |g::q=>by
  unfold yI
  split
  ·rcases acT e q with h|⟨a,g2,q2,h1,h2,h3⟩
   ·exact Or.inl h
   ·exact Or.inr ⟨g::a,g2,q2,by rw[h1];rfl,h2,h3⟩
  ·rename_i h
   exact Or.inr ⟨[],g,q,rfl,rfl,h⟩
theorem Hist.raise(H:UV u)(hW:WT u m)(h:Hist u m)(hf:m.frs=f::r)(hop:(zh (zb u f.fn) f.at_).op=14∨(zh (zb u f.fn) f.at_).op=15)(e:Vl)(hen:(qH u { m with obs:=m.obs++[obOf f]} e).en=0):Hist u (qH u { m with obs:=m.obs++[obOf f]} e):=by
 rcases acT (u:=u) e m.frs with h0|⟨a,g,q,h1,h2,h3⟩
 ·unfold qH at hen
  have hen':(if(yI u e m.frs).isEmpty then(2:Int) else m.en)=0:=hen;rw[h0] at hen';exact absurd hen' (show ¬(2:Int)=0 by decide)
 ·have hg:g∈m.frs:=by rw[h1];simp
  have hT:=hW.frs g hg;have hh:=(jz H.u hT.fn hT.at_).hnd h3
  have hr:(zh (zb u g.fn) g.at_).op=9∨(zh (zb u g.fn) g.at_).op=10∨(zh (zb u g.fn) g.at_).op=14∨(zh (zb u g.fn) g.at_).op=15:=by
   rw[hf] at h1
   cases a with
   |nil=>
    injection h1 with h1 _
    subst h1
    omega
   |cons x a=>
    injection h1 with _ h1
    have hch:=hW.chain;rw[hf] at hch
    have key:∀(l:List Frm) (y:Frm),jZ u (y::l)→∀z∈l,(zh (zb u z.fn) z.at_).op=9∨(zh (zb u z.fn) z.at_).op=10:=by
     intro l
     induction l with
     |nil=>intro y _ z hz;cases hz
     |cons w l ih=>
      intro y hy z hz
      rcases List.mem_cons.1 hz with rfl|hz
      ·exact hy.1.call
      ·exact ih w hy.2 z hz
    rcases key r f hch g (by rw[h1];simp) with h|h<;>omega
  unfold qH;show Hist u ⟨m.inp,m.objs,yI u e m.frs,m.made,m.obs++[obOf f],_⟩;rw[h2];exact h.back hf (g:=g) (q:=q) ⟨a,by rw[←hf];exact h1⟩ (g':={ g.go (zh (zb u g.fn) g.at_).hnd with exc:=e}) rfl rfl rfl ⟨Or.inr ⟨hr,(by show(zh (zb u g.fn) g.at_).hnd=(((zh (zb u g.fn) g.at_).hnd).toNat:Int);omega)⟩,fun i=>Or.inl rfl⟩ _ _ _
theorem acd(hf:m.frs=f::r):recM m={ m with obs:=m.obs++[obOf f]}:=by unfold recM;rw[hf];rfl
theorem Hist.call_(hH:Hist u m)(hf:m.frs=f::r)(hen:m.en=0)(x:Ins)(h:(yO u { m with obs:=m.obs++[obOf f]} (zb u f.fn) f x).en=0):Hist u (yO u { m with obs:=m.obs++[obOf f]} (zb u f.fn) f x):=by
 unfold yO at h ⊢
 split at h
 ·exact absurd h (show ¬(5:Int)=0 by decide)
 ·rename_i h64
  rw[if_neg h64];have ha:=hH.atAll hf;have h1:=hH.nof;have h2:=hH.nod;have h3:=hH.call;rw[hf] at h1 h2 h3;show Hist u ⟨m.inp,m.objs,abM u _ _ _ _::m.frs,m.made+1,m.obs++[obOf f],m.en⟩;rw[hf]
  have hlo:∀o∈m.obs++[obOf f],o.no<m.made:=fun o ho=>by
   rcases List.mem_append.1 ho with ho|ho
   ·exact hH.noo o ho
   ·rw[List.mem_singleton.1 ho];exact h1 f (by simp)
  refine acc (fun y hy=>?_) (fun o ho=>by have:=hlo o ho;omega) ?_ (fun y hy=>?_) ha (by simp) ?_
  ·rcases List.mem_cons.1 hy with rfl|hy
   ·show m.made<m.made+1;omega
   ·have:=h1 y hy;omega
  ·rw[List.map_cons,List.nodup_cons]
   refine⟨fun hm=>?_,h2⟩;obtain⟨y,hy,e⟩:=List.mem_map.1 hm;have:=h1 y hy;have e':y.no=m.made:=e
   omega
  ·rw[List.length_append,List.length_singleton]
   rcases List.mem_cons.1 hy with rfl|hy
   ·show -1≤(((m.obs++[obOf f]).length:Int)-1)∧(((m.obs++[obOf f]).length:Int)-1)<_
    rw[List.length_append,List.length_singleton]
    omega
   ·have:=h3 y hy;omega
  ·have hl:ys (m.obs++[obOf f]) m.made=none:=aeW hlo
   refine⟨fun _=>⟨rfl,rfl⟩,fun p hp=>?_⟩;have hp':ys (m.obs++[obOf f]) m.made=some p:=hp;rw[hl] at hp'
   cases hp'
theorem Hist.step(H:UV u)(hW:WT u m)(hH:Hist u m)(hf:m.frs=f::r)(hen:m.en=0)(h0:(zS u (recM m) f r).en=0):Hist u (zS u (recM m) f r):=by
 have hT:=hW.frs f (by rw[hf];simp);have hR:=ke H.u hT.fn hT.at_;have hC:=jz H.u hT.fn hT.at_;rw[acd hf] at h0 ⊢
 rcases hop17 H hT with h|h|h|h|h|h|h|h|h|h|h|h|h|h|h|h|h
 ·rw[aaD h]
  exact hH.moved hf (f':=f.nx) rfl rfl rfl (abO (by omega) (by omega) (by omega)) _ _ _
 ·rw[aaE h]
  exact hH.moved hf (f':=f.st (zh (zb u f.fn) f.at_).dst _) rfl rfl rfl (jA (by rw[h];rfl) (yK.1 (hR.d (by rw[h];rfl) (by rw[h];rfl))).1 (by omega) (by omega) (by omega)) _ _ _
 ·rw[aaF h]
  exact hH.moved hf (f':=f.st (zh (zb u f.fn) f.at_).dst _) rfl rfl rfl (jA (by rw[h];rfl) (yK.1 (hR.d (by rw[h];rfl) (by rw[h];rfl))).1 (by omega) (by omega) (by omega)) _ _ _
 ·rw[aaG h]
  exact hH.moved hf (f':=f.st (zh (zb u f.fn) f.at_).dst _) rfl rfl rfl (jA (by rw[h];rfl) (yK.1 (hR.d (by rw[h];rfl) (by rw[h];rfl))).1 (by omega) (by omega) (by omega)) _ _ _
 ·rw[aaH h]
  exact hH.moved hf (f':=f.st (zh (zb u f.fn) f.at_).dst _) rfl rfl rfl (jA (by rw[h];rfl) (yK.1 (hR.d (by rw[h];rfl) (by rw[h];rfl))).1 (by omega) (by omega) (by omega)) _ _ _
 ·rw[aaI h]
  exact hH.moved hf (f':=f.st (zh (zb u f.fn) f.at_).dst _) rfl rfl rfl (jA (by rw[h];rfl) (yK.1 (hR.d (by rw[h];rfl) (by rw[h];rfl))).1 (by omega) (by omega) (by omega)) _ _ _
 ·rw[aaJ h]
  exact hH.moved hf (f':=f.st (zh (zb u f.fn) f.at_).dst _) rfl rfl rfl (jA (by rw[h];rfl) (yK.1 (hR.d (by rw[h];rfl) (by rw[h];rfl))).1 (by omega) (by omega) (by omega)) _ _ _
 ·rw[aaK h] at h0 ⊢
  split at h0
  ·rename_i h3
   rw[if_pos h3];exact hH.moved hf (f':=f.st (zh (zb u f.fn) f.at_).dst _) rfl rfl rfl (jA (by rw[h];rfl) (yK.1 (hR.d (by rw[h];rfl) (by rw[h];rfl))).1 (by omega) (by omega) (by omega)) _ _ _
  ·exact absurd h0 (show ¬(3:Int)=0 by decide)
 ·rw[aaL h] at h0 ⊢
  split at h0
  ·rename_i h3
   rw[if_pos h3];exact hH.moved hf (f':=f.nx) rfl rfl rfl (abO (by omega) (by omega) (by omega)) _ _ _
  ·exact absurd h0 (show ¬(3:Int)=0 by decide)
 ·rw[aaM h] at h0 ⊢
  split at h0
  ·rename_i h3
   rw[if_pos h3];exact hH.call_ hf hen _ h0
  ·exact absurd h0 (show ¬(3:Int)=0 by decide)
 ·rw[xR h] at h0 ⊢
  exact hH.call_ hf hen _ h0
 ·rw[xS h]
  have hj:=hC.jump (Or.inl h)
  split
  ·exact hH.moved hf (f':=f.nx) rfl rfl rfl (abO (by omega) (by omega) (by omega)) _ _ _
  ·exact hH.moved hf (f':=f.go (zh (zb u f.fn) f.at_).jmp) rfl rfl rfl (agO (Or.inl h) hj.1) _ _ _
 ·rw[xT h]
  have hj:=hC.jump (Or.inr h);exact hH.moved hf (f':=f.go (zh (zb u f.fn) f.at_).jmp) rfl rfl rfl (agO (Or.inr h) hj.1) _ _ _
 ·rw[xU h] at h0 ⊢
  cases r with
  |nil=>exact absurd h0 (show ¬(1:Int)=0 by decide)
  |cons g r'=>
   have hch:=hW.chain;rw[hf] at hch;obtain⟨hL,hch2⟩:=hch;have hG:=hW.frs g (by rw[hf];simp);have hcg:(zh (zb u g.fn) g.at_).op≠12∧(zh (zb u g.fn) g.at_).op≠13∧(zh (zb u g.fn) g.at_).op≠14:=by rcases hL.call with h|h<;>omega
   have hu:zp (zh (zb u g.fn) g.at_).op 100=true:=by rcases hL.call with h|h<;>(rw[h];rfl)
   have hb:(g.back u (retV (zb u f.fn) f (zh (zb u f.fn) f.at_))).fn=g.fn∧(g.back u (retV (zb u f.fn) f (zh (zb u f.fn) f.at_))).no=g.no∧(g.back u (retV (zb u f.fn) f (zh (zb u f.fn) f.at_))).call=g.call∧MovP u (obOf g) (g.back u (retV (zb u f.fn) f (zh (zb u f.fn) f.at_))).at_ (g.back u (retV (zb u f.fn) f (zh (zb u f.fn) f.at_))).vals:=by
    unfold Frm.back
    split
    ·exact⟨rfl,rfl,rfl,abO hcg.1 hcg.2.1 hcg.2.2⟩
    ·rename_i hd
     exact⟨rfl,rfl,rfl,jA hu (yK.1 ((ke H.u hG.fn hG.at_).dc hu hd)).1 hcg.1 hcg.2.1 hcg.2.2⟩
   exact hH.back hf (g:=g) (q:=r') ⟨[f],rfl⟩ hb.1 hb.2.1 hb.2.2.1 hb.2.2.2 _ _ _
 ·rw[xV h] at h0 ⊢
  split at h0
  ·rename_i h3
   rw[if_pos h3];exact hH.raise H hW hf (Or.inl h) _ h0
  ·exact absurd h0 (show ¬(3:Int)=0 by decide)
 ·rw[xW h] at h0 ⊢
  split at h0
  ·rename_i hs
   rw[if_pos hs];exact hH.moved hf (f':=f.st (zh (zb u f.fn) f.at_).dst _) rfl rfl rfl (jA (by rw[h];rfl) (yK.1 (hR.d (by rw[h];rfl) (by rw[h];rfl))).1 (by omega) (by omega) (by omega)) _ _ _
  ·rename_i hs
   rw[if_neg hs];exact hH.raise H hW hf (Or.inr h) _ h0
 ·rw[xX h]
  exact hH.moved hf (f':=f.st (zh (zb u f.fn) f.at_).dst _) rfl rfl rfl (jA (by rw[h];rfl) (yK.1 (hR.d (by rw[h];rfl) (by rw[h];rfl))).1 (by omega) (by omega) (by omega)) _ _ _
end
section
variable {u:Unt} {m:Mch} {f:Frm} {r:List Frm}
structure Inv(u:Unt)(m:Mch):Prop where
 wt:WT u m
 hist:m.en=0→Hist u m
 all:AllF u m.obs
theorem WT.recd(h:WT u m):WT u (recM m):=by
 unfold recM
 split
 ·exact h
 ·exact⟨h.frs,h.chain,h.cnt,h.objc,h.objf,h.some_⟩
theorem aaN:(recM m).frs=m.frs∧(recM m).en=m.en:=by
 unfold recM
 split<;>exact⟨rfl,rfl⟩
theorem aei(F:Fun)(x:Ins):(yO u m F f x).obs=m.obs:=by unfold yO;split<;>rfl
theorem agP(F:Fun)(x:Ins):(kD u m F f r x).obs=m.obs:=by unfold kD;split<;>rfl
theorem ahB(H:UV u)(hT:FrT u m.objs f):(zS u m f r).obs=m.obs∧(m.en=0→(zS u m f r).en≠4):=by
 rcases hop17 H hT with h|h|h|h|h|h|h|h|h|h|h|h|h|h|h|h|h
 ·rw[aaD h];exact⟨rfl,fun h=>by show m.en≠4;omega⟩
 ·rw[aaE h];exact⟨rfl,fun h=>by show m.en≠4;omega⟩
 ·rw[aaF h];exact⟨rfl,fun h=>by show m.en≠4;omega⟩
 ·rw[aaG h];exact⟨rfl,fun h=>by show m.en≠4;omega⟩
 ·rw[aaH h];exact⟨rfl,fun h=>by show m.en≠4;omega⟩
 ·rw[aaI h];exact⟨rfl,fun h=>by show m.en≠4;omega⟩
 ·rw[aaJ h];exact⟨rfl,fun h=>by show m.en≠4;omega⟩
 ·rw[aaK h]
  split
  ·exact⟨rfl,fun h=>by show m.en≠4;omega⟩
  ·exact⟨rfl,fun h=>by show(3:Int)≠4;omega⟩
 ·rw[aaL h]
  split
  ·exact⟨rfl,fun h=>by show m.en≠4;omega⟩
  ·exact⟨rfl,fun h=>by show(3:Int)≠4;omega⟩
 ·rw[aaM h]
  split
  ·refine⟨aei _ _,fun h=>?_⟩
   unfold yO
   split
   ·show(5:Int)≠4;omega
   ·show m.en≠4;omega
  ·exact⟨rfl,fun h=>by show(3:Int)≠4;omega⟩
 ·rw[xR h]
  refine⟨aei _ _,fun h=>?_⟩;unfold yO
  split
  ·show(5:Int)≠4;omega
  ·show m.en≠4;omega
 ·rw[xS h];exact⟨rfl,fun h=>by show m.en≠4;omega⟩
 ·rw[xT h];exact⟨rfl,fun h=>by show m.en≠4;omega⟩
 ·rw[xU h]
  refine⟨agP _ _,fun h=>?_⟩;unfold kD
  split
  ·show(1:Int)≠4;omega
  ·show m.en≠4;omega
 ·rw[xV h]
  split
  ·refine⟨rfl,fun h=>?_⟩
   show(if(yI u _ m.frs).isEmpty then(2:Int) else m.en)≠4
   split<;>omega
  ·exact⟨rfl,fun h=>by show(3:Int)≠4;omega⟩
 ·rw[xW h]
  split
  ·exact⟨rfl,fun h=>by show m.en≠4;omega⟩
  ·refine⟨rfl,fun h=>?_⟩
   show(if(yI u _ m.frs).isEmpty then(2:Int) else m.en)≠4
   split<;>omega
 ·rw[xX h];exact⟨rfl,fun h=>by show m.en≠4;omega⟩
theorem Inv.round(H:UV u)(h:Inv u m)(hen:m.en=0):Inv u (jy u (recM m))∧(∃o,(jy u (recM m)).obs=m.obs++[o])∧(jy u (recM m)).en≠4:=by
 obtain⟨f,r,hf⟩:∃f r,m.frs=f::r:=by
  cases hq:m.frs with
  |nil=>exact absurd hq (h.wt.some_ hen)
  |cons f r=>exact⟨f,r,rfl⟩
 have hT:=h.wt.frs f (by rw[hf];simp);have hf1:(recM m).frs=f::r:=aaN.1.trans hf;have he1:(recM m).en=0:=aaN.2.trans hen;have hs:jy u (recM m)=zS u (recM m) f r:=by unfold jy;rw[hf1]
 have hT1:FrT u (recM m).objs f:=h.wt.recd.frs f (by rw[hf1];simp);obtain⟨ho,he⟩:=ahB (r:=r) H hT1;have hob:(recM m).obs=m.obs++[obOf f]:=by rw[acd hf]
 rw[hs,ho,hob];refine⟨⟨h.wt.recd.step H hf1 he1,fun h0=>(h.hist hen).step H h.wt hf hen h0,?_⟩,⟨_,rfl⟩,he he1⟩;rw[ho,hob];exact h.all.snoc ((h.hist hen).fol hf) hT.ob
theorem Inv.start(H:UV u)(inp:List Int):Inv u (yD u inp):=by
 have hk:u.main.toNat<u.funcs.length:=by have:=H.u.m0;have:=H.u.m1;omega
 obtain⟨p,hp,hF⟩:=qA H.u hk
 have hcat:zL (zb u u.main.toNat).code ((0:Nat):Int)=false:=by
  have hx:=(jd H.u hk hF.cl0).ctl;unfold ctlB at hx;rw[zQ hF.cl0] at hx;simp only[Bool.and_eq_true] at hx;rw[qJ hF.cl0]
  cases hq:decide (((zb u u.main.toNat).code[0]'hF.cl0).op=15) with
  |false=>rfl
  |true=>
   rw[decide_eq_true_eq] at hq;rw[hq] at hx;exact absurd hx.2 (by decide)
 refine⟨⟨fun g hg=>?_,trivial,(by show(1:Nat)≤64;omega),fun k h=>(by cases h),fun k h=>(by cases h),fun _ h=>by cases h⟩,fun _=>?_,fun i o h=>by cases h⟩
 ·have hg':=List.mem_singleton.1 hg
  subst hg';refine⟨hk,hF.cl0,by show(List.replicate _ _).length=_;rw[List.length_replicate],fun i v t hv ht=>?_,fun hc=>?_⟩
  ·have hv':(List.replicate (zb u u.main.toNat).vars.length ((0,0,0):Vl))[i]? = some v:=hv
   rw[(List.mem_replicate.1 (List.mem_of_getElem? hv')).2];exact VT.none _
  ·have hc':zL (zb u u.main.toNat).code ((0:Nat):Int)=true:=hc
   rw[hcat] at hc'
   cases hc'
 ·refine⟨fun g hg=>?_,fun o ho=>(by cases ho),(by simp[yD]),fun g hg=>?_,fun g hg=>(by cases hg),fun _ g hg=>?_,fun g hg=>?_⟩
  ·rw[List.mem_singleton.1 hg];show 0<1;omega
  ·rw[List.mem_singleton.1 hg];show(-1:Int)≤ -1∧(-1:Int)<0;omega
  ·have hg':=Option.some.inj (show some _=some g from hg)
   subst hg';exact⟨rfl,rfl,rfl,rfl⟩
  ·have hg':=Option.some.inj (show some _=some g from hg)
   subst hg';exact⟨fun _=>⟨rfl,rfl⟩,fun p hp=>by cases hp⟩
theorem xZ(H:UV u):∀(k:Nat) (m:Mch),Inv u m→AllF u (runM u k m).obs∧∃t,(runM u k m).obs=m.obs++t
 | 0,m,h=>by
  unfold runM
  split
  ·exact⟨h.all,[],by simp⟩
  ·exact⟨h.all,[],by simp⟩
 |k+1,m,h=>by
  unfold runM
  split
  ·rename_i hen
   obtain⟨h1,⟨o,h2⟩,_⟩:=h.round H hen;obtain⟨h3,t,h4⟩:=xZ H k _ h1;exact⟨h3,o::t,by rw[h4,h2];simp⟩
  ·exact⟨h.all,[],by simp⟩
theorem ace(H:UV u)(c:Nat):∀(k:Nat) (m:Mch),Inv u m→m.en≠4→(∃t,(runM u (k+c) m).obs=(runM u k m).obs++t)∧(runM u k m).obs.length≤m.obs.length+k∧((runM u k m).en≠4→runM u (k+c) m=runM u k m)∧((runM u k m).en=4→(runM u k m).obs.length=m.obs.length+k)
 | 0,m,h,h4=>by
  rw[Nat.zero_add];have e:runM u 0 m=if m.en=0 then{ m with en:=4} else m:=rfl
  rw[e]
  by_cases hen:m.en=0
  ·rw[if_pos hen]
   exact⟨(xZ H c m h).2,Nat.le_refl _,fun h=>absurd rfl h,fun _=>rfl⟩
  ·rw[if_neg hen]
   have e2:runM u c m=m:=by cases c with
    |zero=>unfold runM;rw[if_neg hen]
    |succ c=>unfold runM;rw[if_neg hen]
   rw[e2];exact⟨⟨[],by simp⟩,Nat.le_refl _,fun _=>rfl,fun h=>absurd h h4⟩
 |k+1,m,h,h4=>by
  rw[show k+1+c=(k+c)+1 by omega];have e:∀j,runM u (j+1) m=if m.en=0 then runM u j (jy u (recM m)) else m:=fun j=>rfl
  rw[e,e]
  by_cases hen:m.en=0
  ·rw[if_pos hen,if_pos hen]
   obtain⟨h1,⟨o,h2⟩,h3⟩:=h.round H hen;obtain⟨g1,g2,g3,g4⟩:=ace H c k _ h1 h3;rw[h2,List.length_append,List.length_singleton] at g2 g4;exact⟨g1,by omega,g3,fun h=>by rw[g4 h];omega⟩
  ·rw[if_neg hen,if_neg hen]
   exact⟨⟨[],by simp⟩,by omega,fun _=>rfl,fun h=>absurd h h4⟩
end
end Go.Proofs.YtmhdambkchlilaaGreatDoor
