/- Chapter 13: raw rows of a unit under way in memory (seat without the reader of package ir). Chapter 13: the answer's head, parseSig and begin at the closed lines of the law of chapter 15. Chapter 13: the answer's part at the closed lines of the law of chapter 15. -/
import Derived.Test.YtmhdambkchlilaaGreatDoorJGt
import Derived.Test.YtmhdambkchlilaaGreatDoorJPx
import Derived.Test.YtmhdambkchlilaaGreatDoorJGa
namespace Go.Proofs.YtmhdambkchlilaaGreatDoor
open Go.RowKit
set_option linter.unusedVariables false
set_option maxRecDepth 100000
set_option maxHeartbeats 4000000
theorem aaf{α:Type}{cells:α→List Value}{size:Nat}(hsz:∀x,(cells x).length=size):∀(l:List α) (i:Nat) (hi:i<l.length) (j:Nat) (u:Value) (y:α),j<size→cells y=(cells l[i]).set j u→(l.flatMap cells).set (i*size+j) u=(l.set i y).flatMap cells
 |[],i,hi,j,u,y,_,_=>by simp at hi
 |x::l,0,hi,j,u,y,hj,h=>by
  rw[List.flatMap_cons,Nat.zero_mul,Nat.zero_add,List.set_append_left _ _ (by rw[hsz];exact hj),List.set_cons_zero,List.flatMap_cons,h]
  rfl
 |x::l,i+1,hi,j,u,y,hj,h=>by
  rw[List.flatMap_cons,List.set_append_right _ _ (by rw[hsz,Nat.succ_mul];omega),hsz,List.set_cons_succ,List.flatMap_cons];have e:(i+1)*size+j-size=i*size+j:=by rw[Nat.succ_mul];omega
  rw[e,aaf hsz l i (by simpa using hi) j u y hj (by simpa using h)]
section
variable {α:Type} {cells:α→List Value} {size base:Nat} {e:TypeId} {w w':World} {l:List α} {g n cap:Nat}
theorem Own.setAt(hc:yk cells size)(h:Own cells size base e w (.slice (some ⟨g,0,none⟩) n cap) l)(hn:l.length=n){i:Nat}(hi:i<l.length){j:Nat}(hj:j<size)(u:Value)(y:α)(hy:cells y=(cells l[i]).set j u) :
  Own cells size base e (w.setCell ⟨g,i*size+j,none⟩ u) (.slice (some ⟨g,0,none⟩) n cap) (l.set i y):=by
 subst hn;have:=(World.ownsRow.stored h (i*size+j) u).1;unfold Own;rw[aaf hc.len l i hi j u y hj hy] at this;rw[List.length_set];exact this
theorem Own.cellOf(hc:yk cells size)(h:Own cells size base e w (.slice (some ⟨g,0,none⟩) n cap) l)(hn:l.length=n){i:Nat}(hi:i<l.length){j:Nat}{u:Value}(hu:(cells l[i])[j]? = some u):w.cell? ⟨g,i*size+j,none⟩=some u:=by
 subst hn;have h1:=xB hc.len l i hi j u hu;have hj:j<size:=by rw[←hc.len l[i]];exact(List.getElem?_eq_some_iff.1 hu).1
 have h2:i*size+j<l.length*size:=by
  have:=Nat.mul_le_mul_right size (show i+1≤l.length by omega);rw[Nat.succ_mul] at this
  omega
 rw[World.ownsRow.cellAt h (i*size+j) h2];exact h1
theorem Own.freeOf(h:Own cells size base e w (.slice (some ⟨g,0,none⟩) n cap) l)(hn:l.length=n)(i:Nat):w.frozen? ⟨g,i,none⟩=false:=by
 subst hn;exact World.ownsRow.frozenAt h i
theorem Own.ltOf(h:Own cells size base e w (.slice (some ⟨g,0,none⟩) n cap) l):base≤g∧g<w.heap.size:=World.ownsRow.lt h g rfl
theorem Own.someOf{v:Value}(h:Own cells size base e w v l)(hl:0<l.length):∃g c,v = .slice (some ⟨g,0,none⟩) l.length c:=by
 rcases h.2 with⟨_,h0⟩|⟨g,cap,cur,hv,_⟩
 ·omega
 ·exact⟨g,cap,hv⟩
theorem Own.sliceOf{v:Value}(h:Own cells size base e w v l):∃A c,v = .slice A l.length c:=by
 rcases h.2 with⟨hv,h0⟩|⟨g,cap,cur,hv,_⟩
 ·exact⟨none,0,by rw[hv,h0]⟩
 ·exact⟨_,cap,hv⟩
end
def qs(w:World)(row:Option Nat)(t:TypeId):Prop:=∀b,row=some b→∃cs fr,w.heap[b]? = some (.cells cs t fr)
section
variable {α:Type} {cells:α→List Value} {size base:Nat} {e:TypeId} {w w':World} {v:Value} {l:List α}
theorem Own.rowTyI(h:Own cells size base e w v l):qs w v.ownBlock e:=fun b hb=>by
 rcases h.2 with⟨rfl,_⟩|⟨g,cap,cur,rfl,_,hh,_⟩
 ·simp[Value.ownBlock] at hb
 ·have:g=b:=by simpa[Value.ownBlock] using hb
  subst this;exact⟨_,_,hh⟩
theorem Box.rowTyI{b:Nat}{cs:List Value}{t:TypeId}(h:Box w b cs t):qs w (some b) t:=fun b' hb=>by
 injection hb with hb
 subst hb;exact⟨_,_,h⟩
theorem Own.keptTyI{row:Option Nat}{t:TypeId}(h:Own cells size base e w v l)(hr:qs w row t)(hne:e≠t)(hg:w.grownBy w' row):Own cells size base e w' v l:=
 h.kept hg fun b hb hv=>by
  obtain⟨cs,fr,h1⟩:=hr b hb;obtain⟨cs',fr',h2⟩:=h.rowTyI b hv;rw[h1] at h2;injection h2 with h2
  injection h2 with _ h2 _
  exact hne h2.symm
theorem Own.base0(h:Own cells size base e w v l){base':Nat}(hb:base'≤base):Own cells size base' e w v l:=by
 refine⟨h.1,?_⟩
 rcases h.2 with h1|⟨g,cap,cur,h1,h2,h3⟩
 ·exact Or.inl h1
 ·exact Or.inr ⟨g,cap,cur,h1,Nat.le_trans hb h2,h3⟩
end
abbrev RS:=Sg×Option Addr×Nat
def jO(r:RS):List Value:=[.string r.1.name,.bool r.1.static,.slice r.2.1 r.1.params.length r.2.2,.string r.1.result]
theorem jv:yk jO 4:=⟨fun _=>rfl,fun _ u hu=>by simp[jO] at hu;rcases hu with rfl|rfl|rfl|rfl<;>rfl⟩
abbrev RI:=Ins×Option Addr×Nat
def jP(r:RI):List Value:=[.int .i64 r.1.op,.int .i64 r.1.dst,.int .i64 r.1.a,.int .i64 r.1.b,.int .i64 r.1.n,.string r.1.cls,.string r.1.name,.slice r.2.1 r.1.args.length r.2.2,.int .i64 r.1.jmp,.int .i64 r.1.hnd]
theorem xO:yk jP 10:=⟨fun _=>rfl,fun _ u hu=>by simp[jP] at hu;rcases hu with rfl|rfl|rfl|rfl|rfl|rfl|rfl|rfl|rfl|rfl<;>rfl⟩
abbrev RCl:=Cls×(Option Addr×Nat)×Option Addr×Nat
def jw(r:RCl):List Value:=[.string r.1.name,.string r.1.super,.slice r.2.1.1 r.1.fields.length r.2.1.2,.slice r.2.2.1 r.1.methods.length r.2.2.2]
theorem qR:yk jw 4:=⟨fun _=>rfl,fun _ u hu=>by simp[jw] at hu;rcases hu with rfl|rfl|rfl|rfl<;>rfl⟩
abbrev RFn:=Fun×(Option Addr×Nat)×Option Addr×Nat
def qz(r:RFn):List Value:=[.string r.1.cls,.string r.1.name,.bool r.1.static,.int .i64 r.1.nparams,.slice r.2.1.1 r.1.vars.length r.2.1.2,.string r.1.result,.slice r.2.2.1 r.1.code.length r.2.2.2]
theorem zV:yk qz 7:=⟨fun _=>rfl,fun _ u hu=>by simp[qz] at hu;rcases hu with rfl|rfl|rfl|rfl|rfl|rfl|rfl<;>rfl⟩
theorem aiB:qc Tryz.prog 39 61 2 32 (.agg #[.string ByteArray.empty,.string ByteArray.empty]):=⟨Tryz.underlying39,by kernel_rfl,rfl,by omega⟩
theorem aje:qc Tryz.prog 92 36 4 64 (.agg #[.string ByteArray.empty,.bool false,.slice none 0 0,.string ByteArray.empty]):=⟨Tryz.underlying92,by kernel_rfl,rfl,by omega⟩
theorem aiC:qc Tryz.prog 27 94 4 80 (.agg #[.string ByteArray.empty,.string ByteArray.empty,.slice none 0 0,.slice none 0 0]):=⟨Tryz.underlying27,by kernel_rfl,rfl,by omega⟩
theorem afb:qc Tryz.prog 40 59 10 112 (.agg #[.int .i64 0,.int .i64 0,.int .i64 0,.int .i64 0,.int .i64 0,.string ByteArray.empty,.string ByteArray.empty,.slice none 0 0,.int .i64 0,.int .i64 0]):=⟨Tryz.underlying40,by kernel_rfl,rfl,by omega⟩
theorem aiD:qc Tryz.prog 30 42 7 112 (.agg #[.string ByteArray.empty,.string ByteArray.empty,.bool false,.int .i64 0,.slice none 0 0,.string ByteArray.empty,.slice none 0 0]):=⟨Tryz.underlying30,by kernel_rfl,rfl,by omega⟩
section
variable {w w':World} {m m':Nat}
def SgI(w:World)(r:RS):Prop:=Own yd 1 0 9 w (.slice r.2.1 r.1.params.length r.2.2) r.1.params
def InI(w:World)(r:RI):Prop:=Own yh 1 0 3 w (.slice r.2.1 r.1.args.length r.2.2) r.1.args
structure ClsI(w:World)(lo:Nat)(r:RCl):Prop where
 flds:Own qM 2 lo 61 w (.slice r.2.1.1 r.1.fields.length r.2.1.2) r.1.fields
 mths:∃rs:List RS,Own jO 4 lo 36 w (.slice r.2.2.1 r.1.methods.length r.2.2.2) rs∧rs.map (·.1)=r.1.methods∧∀x∈rs,SgI w x
structure FunI(w:World)(lo:Nat)(r:RFn):Prop where
 vars:Own qM 2 lo 61 w (.slice r.2.1.1 r.1.vars.length r.2.1.2) r.1.vars
 code:∃rs:List RI,Own jP 10 lo 59 w (.slice r.2.2.1 r.1.code.length r.2.2.2) rs∧rs.map (·.1)=r.1.code∧∀x∈rs,InI w x
theorem SgI.mono{r:RS}(h:SgI w r)(hb:Below w.heap.size w w'):SgI w' r:=Own.mono h hb
theorem InI.mono{r:RI}(h:InI w r)(hb:Below w.heap.size w w'):InI w' r:=Own.mono h hb
theorem ClsI.mono{r:RCl}(h:ClsI w m r)(hb:Below w.heap.size w w'):ClsI w' m r:=by
 obtain⟨rs,h1,h2,h3⟩:=h.mths;exact⟨h.flds.mono hb,rs,h1.mono hb,h2,fun x hx=>(h3 x hx).mono hb⟩
theorem FunI.mono{r:RFn}(h:FunI w m r)(hb:Below w.heap.size w w'):FunI w' m r:=by
 obtain⟨rs,h1,h2,h3⟩:=h.code;exact⟨h.vars.mono hb,rs,h1.mono hb,h2,fun x hx=>(h3 x hx).mono hb⟩
end
theorem jE{α:Type}{L:Lay α}{cells:α→List Value}{size base n c:Nat}{e:TypeId}{w:World}{A:Option Addr}{l:List α}(h:Own cells size base e w (.slice A n c) l)(hs:L.size=size)(hL:∀x,L.rep w x (cells x)):l.length≤c∧Sl L w A l:=by
 obtain⟨A',c',e1,h1,h2⟩:=h.sl hs hL;injection e1 with e1 e2 e3
 subst e1 e3;exact⟨h1,h2⟩
theorem ado{α β:Type}{M:Lay β}{g:α→β}{cells:α→List Value}{size base n c:Nat}{e:TypeId}{w:World}{A:Option Addr}{l:List α}(h:Own cells size base e w (.slice A n c) l)(hc:yk cells size)(hs:M.size=size)(hr:∀x∈l,M.rep w (g x) (cells x)):n=l.length∧l.length≤c∧Sl M w A (l.map g):=by
 obtain⟨A',c',e1,h1,h2⟩:=h.slR (M:=M) (k:=l.map g) hc hs (by simp) (fun i x y hx hy=>by
  rw[List.getElem?_map,hx] at hy;injection hy with hy
  rw[←hy];exact hr x (List.mem_of_getElem? hx))
 injection e1 with e1 e2 e3
 subst e1 e3;rw[List.length_map] at e2 h1;exact⟨e2,h1,h2⟩
theorem SgI.rep{w:World}{x:RS}(h:SgI w x):Lay.sg.rep w x.1 (jO x):=by
 obtain⟨h1,h2⟩:=jE (L:=Lay.str) h rfl (fun _=>rfl);exact⟨x.2.1,x.2.2,rfl,h1,h2⟩
theorem InI.rep{w:World}{x:RI}(h:InI w x):Lay.ins.rep w x.1 (jP x):=by
 obtain⟨h1,h2⟩:=jE (L:=Lay.int) h rfl (fun _=>rfl);exact⟨x.2.1,x.2.2,rfl,h1,h2⟩
theorem ClsI.rep{w:World}{lo:Nat}{x:RCl}(h:ClsI w lo x):Lay.cls.rep w x.1 (jw x):=by
 obtain⟨rs,k1,k2,k3⟩:=h.mths;obtain⟨f1,f2⟩:=jE (L:=Lay.fld) h.flds rfl (fun _=>rfl);obtain⟨-,g1,g2⟩:=ado (M:=Lay.sg) (g:=(·.1)) k1 jv rfl (fun y hy=>(k3 y hy).rep);rw[k2] at g2;have e:rs.length=x.1.methods.length:=by rw[←k2,List.length_map]
 rw[e] at g1;exact⟨x.2.1.1,x.2.1.2,x.2.2.1,x.2.2.2,rfl,f1,f2,g1,g2⟩
theorem FunI.rep{w:World}{lo:Nat}{x:RFn}(h:FunI w lo x):Lay.fun.rep w x.1 (qz x):=by
 obtain⟨rs,k1,k2,k3⟩:=h.code;obtain⟨f1,f2⟩:=jE (L:=Lay.fld) h.vars rfl (fun _=>rfl);obtain⟨-,g1,g2⟩:=ado (M:=Lay.ins) (g:=(·.1)) k1 xO rfl (fun y hy=>(k3 y hy).rep);rw[k2] at g2;have e:rs.length=x.1.code.length:=by rw[←k2,List.length_map]
 rw[e] at g1;exact⟨x.2.1.1,x.2.1.2,x.2.2.1,x.2.2.2,rfl,f1,f2,g1,g2⟩
theorem zK{α:Type}{cells:α→List Value}{size base:Nat}{e:TypeId}{w:World}{g c:Nat}{x:α}(hc:yk cells size)(h:Own cells size base e w (.slice (some ⟨g,0,none⟩) 1 c) [x]){j:Nat}{u:Value}(hu:(cells x)[j]? = some u):w.cell? ⟨g,j,none⟩=some u:=by
 have:=Own.cellOf hc h rfl (i:=0) (by simp) hu
 simpa using this
theorem xe{α:Type}{cells:α→List Value}{size base:Nat}{e:TypeId}{w:World}{g c:Nat}{x:α}(h:Own cells size base e w (.slice (some ⟨g,0,none⟩) 1 c) [x])(j:Nat):w.frozen? ⟨g,j,none⟩=false:=Own.freeOf h rfl j
theorem xP{α:Type}{cells:α→List Value}{size base:Nat}{e:TypeId}{w:World}{g c:Nat}{x:α}(hc:yk cells size)(h:Own cells size base e w (.slice (some ⟨g,0,none⟩) 1 c) [x]){j:Nat}(hj:j<size)(u:Value)(y:α)(hy:cells y=(cells x).set j u):Own cells size base e (w.setCell ⟨g,j,none⟩ u) (.slice (some ⟨g,0,none⟩) 1 c) [y]:=by
 have:=Own.setAt hc h rfl (i:=0) (by simp) hj u y hy
 simpa using this
def sgV:RS:=(⟨⟨#[109,97,105,110]⟩,true,[],⟨#[]⟩⟩,none,0)
def clV0:RCl:=(⟨⟨#[77,97,105,110]⟩,⟨#[]⟩,[],[]⟩,(none,0),none,0)
def clV(g c:Nat):RCl:=(⟨⟨#[77,97,105,110]⟩,⟨#[]⟩,[],[sgV.1]⟩,(none,0),some ⟨g,0,none⟩,c)
def ajw(base:Nat)(w':World)(e:Ending):Prop:=∃g c:Nat,e = .returned (.tuple #[.agg #[.slice (some ⟨g,0,none⟩) 1 c],.bool true])∧Own jw 4 base 94 w' (.slice (some ⟨g,0,none⟩) 1 c) [clV0]
theorem aeT(w:World)(g c:Nat)(hc:2≤c)(hg:g<w.heap.size)(h0:w.cell? ⟨g,0,none⟩=some (.string ⟨#[99,108,97,115,115]⟩))(h1:w.cell? ⟨g,1,none⟩=some (.string ⟨#[77,97,105,110]⟩)) :
  Calls Tryz.prog 74 #[.agg #[.slice none 0 0],.slice (some ⟨g,0,none⟩) 2 c] w fun e w'=>ajw w.heap.size w' e∧Below w.heap.size w w':=by
 have HW:Hid (∀W,Below w.heap.size w W→g<W.heap.size∧W.cell? ⟨g,0,none⟩=some (.string ⟨#[99,108,97,115,115]⟩)∧W.cell? ⟨g,1,none⟩=some (.string ⟨#[77,97,105,110]⟩)):=fun W h=>⟨Nat.lt_of_lt_of_le hg h.size,keptC h0 hg h,keptC h1 hg h⟩
 have hcI:(2:Int)≤(c:Int):=by omega
 clear h0 h1 hg
 go_enter Tryz.func74,Tryz.ntmps74
 go_upto_region 1 with fail
 generalize hW:World.alloc (World.alloc _ _) _=W1 at *
 have hb1:Below w.heap.size w W1:=by rw[←hW];exact(by repeat(first|assumption|exact v9r|apply zc|apply zd|apply zg|apply ze|apply zi))
 have bh:Box W1 w.heap.size [.slice none 0 0] 29:=by rw[←hW];exact(Box.new _ _ _).alloc _
 have br:Box W1 (w.heap.size+1) [.slice none 0 0] 29:=by rw[←hW];exact Box.at (w:=w.alloc _) (by simp)
 have hz1:w.heap.size+2=W1.heap.size:=by rw[←hW];simp
 clear hW;obtain⟨hg,h0,h1⟩:=HW.out _ hb1;have q0:=bh.cell 0 rfl;have qf:=fun i=>bh.free i
 have ql:=bh.lt
 go_upto_region 4 with fail
 generalize hW:World.alloc _ _=W2 at *
 have hb2:Below w.heap.size w W2:=by rw[←hW];exact zc hb1
 have bh2:Box W2 w.heap.size [.slice none 0 0] 29:=by rw[←hW];exact bh.alloc _
 have br2:Box W2 (w.heap.size+1) [.slice none 0 0] 29:=by rw[←hW];exact br.alloc _
 have bc2:Box W2 W1.heap.size [.string ⟨#[77,97,105,110]⟩,.string ⟨#[]⟩,.slice none 0 0,.slice none 0 0] 94:=by rw[←hW];exact Box.new _ _ _
 clear hW q0 qf ql hg h0 h1 hb1 bh br;have q0:=bh2.cell 0 rfl;have qf:=fun i=>bh2.free i
 have ql:=bh2.lt;have y0:=bc2.cell 0 rfl;have y1:=bc2.cell 1 rfl;have y2:=bc2.cell 2 rfl;have y3:=bc2.cell 3 rfl;have yf:=fun i=>bc2.free i
 have yl:=bc2.lt
 go_upto_region 6 with fail
 go_wp2_with (at_builtin;refine zF aiC qR rfl (.tmp 40) (.tmp 42) rfl w.heap.size _ _ rfl Own.nil clV0 _ _ rfl (fun j u hj=>(Box.new _ _ _).cell j hj) (by simp[maxLen]) (by simp) ?_ ?_;(have:=hb2.size;simp;omega);intro v3 w3 ho3 hc3 hg3;have hb3:Below w.heap.size w w3:=(zc hb2).trans hc3;obtain⟨gC,cC,rfl⟩:=ho3.someOf (by simp);have hg4:World.grownBy _ w3 none:=hg3;have bh3:=(bh2.alloc (.cells #[.string ⟨#[77,97,105,110]⟩,.string ⟨#[]⟩,.slice none 0 0,.slice none 0 0] 94)).grown hg4 (by simp);have br3:=(br2.alloc (.cells #[.string ⟨#[77,97,105,110]⟩,.string ⟨#[]⟩,.slice none 0 0,.slice none 0 0] 94)).grown hg4 (by simp);clear hb2 hc3 hg3 hg4 bh2 br2 bc2 q0 qf ql y0 y1 y2 y3 yf yl;(have q0:=bh3.cell 0 rfl);(have ql:=bh3.lt);(have qf:=fun i=>bh3.free i);(have z0:=br3.cell 0 rfl);(have zl:=br3.lt);(have zf:=fun i=>br3.free i))
 have ho4:=ho3.keptTyI bh3.rowTyI (by decide) (zq w3 w.heap.size 0 (.slice (some ⟨gC,0,none⟩) 1 cC));have br4:=br3.setOther (p:=⟨w.heap.size,0,none⟩) (by simp) (.slice (some ⟨gC,0,none⟩) 1 cC);have hb4:=hb3.grown (zq w3 w.heap.size 0 (.slice (some ⟨gC,0,none⟩) 1 cC)) hb3.size (fun k hk=>by injection hk with hk;omega);have ho5:=ho4.keptTyI br4.rowTyI (by decide) (zq _ (w.heap.size+1) 0 (.slice (some ⟨gC,0,none⟩) 1 cC));have br5:=br4.set 0 (.slice (some ⟨gC,0,none⟩) 1 cC);have hb5:=hb4.grown (zq _ (w.heap.size+1) 0 (.slice (some ⟨gC,0,none⟩) 1 cC)) hb4.size (fun k hk=>by injection hk with hk;omega);clear ho4 br4 hb4 bh3 br3 ho3 hb3 q0 ql qf z0 zl zf;generalize World.setCell _ _ _=wz at *
 have y0:=br5.cell 0 rfl;refine bodyPost_ret (v:= .tuple #[.agg #[.slice (some ⟨gC,0,none⟩) 1 cC],.bool true]) (by simp[results,Tryz.results74,go_sem,y0]) rfl ?_;exact⟨⟨gC,cC,rfl,ho5⟩,hb5⟩
theorem adi(w:World)(g c:Nat)(hc:4≤c)(hg:g<w.heap.size)(h0:w.cell? ⟨g,0,none⟩=some (.string ⟨#[109,101,116,104,111,100]⟩))(h1:w.cell? ⟨g,1,none⟩=some (.string ⟨#[109,97,105,110]⟩))(h2:w.cell? ⟨g,2,none⟩=some (.string ⟨#[115,116,97,116,105,99]⟩))(h3:w.cell? ⟨g,3,none⟩=some (.string ⟨#[45]⟩)) :
  Calls Tryz.prog 144 #[.slice (some ⟨g,0,none⟩) 4 c] w fun e w'=>e = .returned (.tuple #[.agg #[.string ⟨#[109,97,105,110]⟩,.bool true,.slice none 0 0,.string ⟨#[]⟩],.bool true])∧Below w.heap.size w w':=by
 have HW:Hid (∀W,Below w.heap.size w W→g<W.heap.size∧W.cell? ⟨g,0,none⟩=some (.string ⟨#[109,101,116,104,111,100]⟩)∧W.cell? ⟨g,1,none⟩=some (.string ⟨#[109,97,105,110]⟩)∧W.cell? ⟨g,2,none⟩=some (.string ⟨#[115,116,97,116,105,99]⟩)∧W.cell? ⟨g,3,none⟩=some (.string ⟨#[45]⟩)):=fun W h=>⟨Nat.lt_of_lt_of_le hg h.size,keptC h0 hg h,keptC h1 hg h,keptC h2 hg h,keptC h3 hg h⟩
 have hcI:(4:Int)≤(c:Int):=by omega
 clear h0 h1 h2 h3 hg
 go_enter Tryz.func144,Tryz.ntmps144
 go_upto_region 1 with fail
 generalize hW:World.alloc _ _=W1 at *
 have hb1:Below w.heap.size w W1:=by rw[←hW];exact(by repeat(first|assumption|exact v9r|apply zc|apply zd|apply zg|apply ze|apply zi))
 have br:Box W1 w.heap.size [.string ⟨#[]⟩,.bool false,.slice none 0 0,.string ⟨#[]⟩] 36:=by rw[←hW];exact Box.new _ _ _
 clear hW;obtain⟨hg,h0,h1,h2,h3⟩:=HW.out _ hb1
 go_upto_region 3 with fail
 refine zt 13 (by kernel_rfl) (by kernel_rfl) ?_;have hb2:=hb1.drew;have br2:=br.drew;clear hb1 br;clear hg h0 h1 h2 h3;generalize W1.drew=W2 at *
 obtain⟨hg,h0,h1,h2,h3⟩:=HW.out _ hb2;refine RZ.chunk (f:=2) [0,1,2,3,4,5,6,7,8,9,10] (by kernel_rfl) ?_
 ((simp only[zo,List.filterMap,List.getElem?_toArray,List.getElem?_cons_zero,List.getElem?_cons_succ]);(repeat(go_big_quiet_step (fail)));refine wpQuiet_nil ?_)
 refine RZ.single 11 rfl (by kernel_rfl) (by omega) ?_;intro K hK
 go_wp2_with fail
 refine hK _ _ (zc (v9r)) ?_;clear hK;generalize hW:World.alloc _ _=W3 at *
 have hb23:Below W2.heap.size W2 W3:=by rw[←hW];exact zc (v9r)
 have hb3:=za hb2 hb23;have br3:Box W3 w.heap.size [.string ⟨#[]⟩,.bool false,.slice none 0 0,.string ⟨#[]⟩] 36:=br2.mono hb23;have bs3:Box W3 W2.heap.size [.string ⟨#[]⟩,.bool false,.slice none 0 0,.string ⟨#[]⟩] 36:=by rw[←hW];exact Box.new _ _ _
 have hne:w.heap.size<W2.heap.size:=br2.lt;clear hW br2 hg h0 h1 h2 h3;have y0:=bs3.cell 0 rfl;have y1:=bs3.cell 1 rfl;have y2:=bs3.cell 2 rfl;have y3:=bs3.cell 3 rfl;have yf:=fun i=>bs3.free i
 have yl:=bs3.lt;obtain⟨bs4,hg4⟩:=bs3.store4 (.string ⟨#[109,97,105,110]⟩) (.bool true) (.slice none 0 0) (.string ⟨#[45]⟩);have hb24:=hb23.grown hg4 hb23.size (fun k hk=>by injection hk with hk;omega);refine RZ.single 12 rfl (by kernel_rfl) (by omega) ?_;intro K hK
 go_wp2_with fail
 refine hK _ _ hb24 ?_;clear hK
 (refine RZ.done (by kernel_rfl) (by kernel_rfl) ?_)
 have hb4:=za hb2 hb24;have br4:=br3.grown hg4 (by simp;omega);clear y0 y1 y2 y3 yf yl hb23 hb3 br3 bs3 hg4 hb24 hb2;generalize World.setCell _ _ _=W4 at *
 generalize W2.heap.size=b2 at *
 obtain⟨hg,h0,h1,h2,h3⟩:=HW.out _ hb4;have y0:=bs4.cell 0 rfl;have y1:=bs4.cell 1 rfl;have y2:=bs4.cell 2 rfl;have y3:=bs4.cell 3 rfl;have yf:=fun i=>bs4.free i
 have yl:=bs4.lt
 go_upto_region 6 with fail
 have bs5:=bs4.set 3 (.string ⟨#[]⟩);have br5:=br4.setOther (p:=⟨b2,3,none⟩) (by simp;omega) (.string ⟨#[]⟩);have hb5:=hb4.grown (zq W4 b2 3 (.string ⟨#[]⟩)) hb4.size (fun k hk=>by injection hk with hk;omega);clear y0 y1 y2 y3 yf yl hg h0 h1 h2 h3 hb4 bs4 br4;generalize World.setCell _ _ _=W5 at *
 obtain⟨hg,h0,h1,h2,h3⟩:=HW.out _ hb5;have y0:=bs5.cell 0 rfl;have y1:=bs5.cell 1 rfl;have y2:=bs5.cell 2 rfl;have y3:=bs5.cell 3 rfl;have yf:=fun i=>bs5.free i
 have yl:=bs5.lt
 by_cases hc4:c-4=0
 all_goals
  refine zt 4 (by kernel_rfl) (by kernel_rfl) ?_;refine RZ.chunk (f:=0) [0,1,2,3] (by kernel_rfl) ?_
  ((simp only[zo,List.filterMap,List.getElem?_toArray,List.getElem?_cons_zero,List.getElem?_cons_succ]);(repeat(go_big_quiet_step (fail)));refine wpQuiet_nil ?_)
  (refine RZ.tail (by kernel_rfl) ?_;(simp only[List.drop_succ_cons,List.drop_zero]))
  go_upto_region 7 with fail
  have bs6:=(bs5.set 2 (.slice none 0 0)).drew;have br6:=(br5.setOther (p:=⟨b2,2,none⟩) (by simp;omega) (.slice none 0 0)).drew;have hb6:=(hb5.grown (zq W5 b2 2 (.slice none 0 0)) hb5.size (fun k hk=>by injection hk with hk;omega)).drew;clear y0 y1 y2 y3 yf yl hg h0 h1 h2 h3 hb5 bs5 br5;generalize World.drew _=W6 at *
  have y0:=bs6.cell 0 rfl;have y1:=bs6.cell 1 rfl;have y2:=bs6.cell 2 rfl;have y3:=bs6.cell 3 rfl;have yf:=fun i=>bs6.free i
  have yl:=bs6.lt;have z0:=br6.cell 0 rfl;have z1:=br6.cell 1 rfl;have z2:=br6.cell 2 rfl;have z3:=br6.cell 3 rfl;have zf:=fun i=>br6.free i
  have zl:=br6.lt
  go_wp2_with fail
  obtain⟨bz,hgz⟩:=br6.store4 (.string ⟨#[109,97,105,110]⟩) (.bool true) (.slice none 0 0) (.string ⟨#[]⟩);have hbz:=hb6.grown hgz hb6.size (fun k hk=>by injection hk with hk;omega);clear y0 y1 y2 y3 yf yl z0 z1 z2 z3 zf zl bs6 br6 hb6 hgz;generalize World.setCell _ _ _=wz at *
  have y0:=bz.cell 0 rfl;have y1:=bz.cell 1 rfl;have y2:=bz.cell 2 rfl;have y3:=bz.cell 3 rfl;have yf:=fun i=>bz.free i
  have yl:=bz.lt;clear yf yl;refine bodyPost_ret (v:= .tuple #[.agg #[.string ⟨#[109,97,105,110]⟩,.bool true,.slice none 0 0,.string ⟨#[]⟩],.bool true]) (by simp[results,Tryz.results144,go_sem,y0,y1,y2,y3]) rfl ?_;exact⟨rfl,hbz⟩
theorem ahw{w w':World}{row:Option Nat}(h:Below w.heap.size w w'):w.grownBy w' row:=⟨h.os,h.tape,h.output,h.size,fun k hk _=>h.block k hk⟩
theorem agJ{w w':World}{row:Option Nat}{b:Nat}(h:w.grownBy w' row)(hb:w.heap.size≤b)(i:Nat)(v:Value):w.grownBy (w'.setCell ⟨b,i,none⟩ v) row:=
 ⟨h.os,h.tape,h.output,(by rw[show(w'.setCell ⟨b,i,none⟩ v).heap.size=w'.heap.size by simp];exact h.size),fun k hk hr=>(Below.heap_setCell w' ⟨b,i,none⟩ v k (by simp;omega)).trans (h.block k hk hr)⟩
def ajx(w:World)(B gC cC:Nat)(w':World)(e:Ending):Prop:=∃gM cM:Nat,e = .returned (.tuple #[.agg #[.slice (some ⟨gC,0,none⟩) 1 cC],.bool true])∧Own jw 4 B 94 w' (.slice (some ⟨gC,0,none⟩) 1 cC) [clV gM cM]∧Own jO 4 w.heap.size 36 w' (.slice (some ⟨gM,0,none⟩) 1 cM) [sgV]∧w.grownBy w' (some gC)
theorem aeU(w:World)(B gC cC:Nat)(hB:B≤w.heap.size)(hC:Own jw 4 B 94 w (.slice (some ⟨gC,0,none⟩) 1 cC) [clV0])(g c:Nat)(hc:4≤c)(hg:g<w.heap.size)(h0:w.cell? ⟨g,0,none⟩=some (.string ⟨#[109,101,116,104,111,100]⟩))(h1:w.cell? ⟨g,1,none⟩=some (.string ⟨#[109,97,105,110]⟩))(h2:w.cell? ⟨g,2,none⟩=some (.string ⟨#[115,116,97,116,105,99]⟩))(h3:w.cell? ⟨g,3,none⟩=some (.string ⟨#[45]⟩)) :
  Calls Tryz.prog 74 #[.agg #[.slice (some ⟨gC,0,none⟩) 1 cC],.slice (some ⟨g,0,none⟩) 4 c] w fun e w'=>ajx w B gC cC w' e:=by
 have HPS:Hid (∀W,Below w.heap.size w W→Calls Tryz.prog 144 #[.slice (some ⟨g,0,none⟩) 4 c] W fun e w'=>e = .returned (.tuple #[.agg #[.string ⟨#[109,97,105,110]⟩,.bool true,.slice none 0 0,.string ⟨#[]⟩],.bool true])∧Below W.heap.size W w'):=fun W h=>adi W g c hc (Nat.lt_of_lt_of_le hg h.size) (keptC h0 hg h) (keptC h1 hg h) (keptC h2 hg h) (keptC h3 hg h)
 have hgC:=(Own.ltOf hC).2;have HW:Hid (∀W,Below w.heap.size w W→g<W.heap.size∧W.cell? ⟨g,0,none⟩=some (.string ⟨#[109,101,116,104,111,100]⟩)∧W.cell? ⟨g,1,none⟩=some (.string ⟨#[109,97,105,110]⟩)∧W.cell? ⟨g,2,none⟩=some (.string ⟨#[115,116,97,116,105,99]⟩)∧W.cell? ⟨g,3,none⟩=some (.string ⟨#[45]⟩)):=fun W h=>⟨Nat.lt_of_lt_of_le hg h.size,keptC h0 hg h,keptC h1 hg h,keptC h2 hg h,keptC h3 hg h⟩
 have hcI:(4:Int)≤(c:Int):=by omega
 clear h0 h1 h2 h3 hg
 go_enter Tryz.func74,Tryz.ntmps74
 go_upto_region 1 with fail
 generalize hW:World.alloc (World.alloc _ _) _=W1 at *
 have hb1:Below w.heap.size w W1:=by rw[←hW];exact(by repeat(first|assumption|exact v9r|apply zc|apply zd|apply zg|apply ze|apply zi))
 have bh:Box W1 w.heap.size [.slice (some ⟨gC,0,none⟩) 1 cC] 29:=by rw[←hW];exact(Box.new _ _ _).alloc _
 have br:Box W1 (w.heap.size+1) [.slice none 0 0] 29:=by rw[←hW];exact Box.at (w:=w.alloc _) (by simp)
 clear hW;obtain⟨hg,h0,h1,h2,h3⟩:=HW.out _ hb1;have q0:=bh.cell 0 rfl;have qf:=fun i=>bh.free i
 have ql:=bh.lt
 go_wp2_with fail
 refine(HPS.out _ hb1).mono ?_;rintro e W2 ⟨rfl,hb12⟩;have hb2:=za hb1 hb12;have bh2:=bh.mono hb12;have br2:=br.mono hb12;clear q0 qf ql hg h0 h1 h2 h3 hb1 bh br hb12
 go_upto_region 14 with fail
 generalize hW:World.alloc _ _=W3 at *
 have hb3:Below w.heap.size w W3:=by rw[←hW];exact zc hb2
 have bh3:Box W3 w.heap.size [.slice (some ⟨gC,0,none⟩) 1 cC] 29:=by rw[←hW];exact bh2.alloc _
 have br3:Box W3 (w.heap.size+1) [.slice none 0 0] 29:=by rw[←hW];exact br2.alloc _
 have bs3:Box W3 W2.heap.size [.string ⟨#[109,97,105,110]⟩,.bool true,.slice none 0 0,.string ⟨#[]⟩] 36:=by rw[←hW];exact Box.new _ _ _
 clear hW bh2 br2 hb2;refine zt 12 (by kernel_rfl) (by kernel_rfl) ?_;have hb4:=hb3.drew;have bh4:=bh3.drew;have br4:=br3.drew;have bs4:=bs3.drew;clear hb3 bh3 br3 bs3;generalize W3.drew=W4 at *
 have hC4:=hC.mono hb4;have hgC4:=Nat.lt_of_lt_of_le hgC hb4.size;have d3:=zK qR hC4 (j:=3) (u:= .slice none 0 0) rfl;have q0:=bh4.cell 0 rfl;have qf:=fun i=>bh4.free i
 have ql:=bh4.lt;have y0:=bs4.cell 0 rfl;have y1:=bs4.cell 1 rfl;have y2:=bs4.cell 2 rfl;have y3:=bs4.cell 3 rfl;have yf:=fun i=>bs4.free i
 have yl:=bs4.lt;refine RZ.chunk (f:=2) [0,1,2,3,4,5,6,7,8,9] (by kernel_rfl) ?_
 ((simp only[zo,List.filterMap,List.getElem?_toArray,List.getElem?_cons_zero,List.getElem?_cons_succ]);(repeat(go_big_quiet_step (fail)));refine wpQuiet_nil ?_)
 refine RZ.single 10 rfl (by kernel_rfl) (by omega) ?_;intro K hK
 go_wp2_with fail
 refine hK _ _ (zc (v9r)) ?_;clear hK;refine RZ.single 11 rfl (by kernel_rfl) (by omega) ?_;intro K hK;generalize hW:World.alloc _ _=W5 at *
 have hb45:Below W4.heap.size W4 W5:=by rw[←hW];exact zc (v9r)
 have bn:Box W5 W4.heap.size [.string ⟨#[109,97,105,110]⟩,.bool true,.slice none 0 0,.string ⟨#[]⟩] 36:=by rw[←hW];exact Box.new _ _ _
 clear hW q0 qf ql y0 y1 y2 y3 yf yl d3;refine zF aje jv rfl (.tmp 112) (.tmp 114) rfl W4.heap.size _ _ rfl Own.nil sgV _ _ rfl (fun j u hj=>bn.cell j hj) (by simp[maxLen]) (by simp) hb45.size ?_;intro v3 w3 ho3 hc3 hg3;have hg4:World.grownBy _ w3 none:=hg3;have hb46:Below W4.heap.size W4 w3:=hb45.trans hc3;have hb6:=za hb4 hb46;obtain⟨gM,cM,rfl⟩:=ho3.someOf (by simp);have bh6:=bh4.mono hb46;have br6:=br4.mono hb46;have hC6:=hC4.mono hb46;have hgM:=(Own.ltOf ho3).1;have hgB:=hb4.size;replace ho3:=Own.base0 ho3 hb4.size;clear hb45 bh4 br4 hC4 bs4 hC bn hg3 hc3 hb4
 go_wp2_with fail
 refine hK _ _ hb46 ?_;clear hK
 (refine RZ.tail (by kernel_rfl) ?_;(simp only[List.drop_succ_cons,List.drop_zero]))
 have hgC6:=Nat.lt_of_lt_of_le hgC hb6.size;have q0:=bh6.cell 0 rfl;have qf:=fun i=>bh6.free i
 have ql:=bh6.lt;have d3:=zK qR hC6 (j:=3) (u:= .slice none 0 0) rfl;have df:=fun i=>xe hC6 i
 go_upto_region 15 with fail
 have hC7:=xP qR hC6 (j:=3) (by omega) (.slice (some ⟨gM,0,none⟩) 1 cM) (clV gM cM) rfl;have ho7:=ho3.keptTyI (Own.rowTyI hC6) (by decide) (zq w3 gC 3 (.slice (some ⟨gM,0,none⟩) 1 cM));have hg7:w.grownBy (w3.setCell ⟨gC,3,none⟩ (.slice (some ⟨gM,0,none⟩) 1 cM)) (some gC):=zJ (ahw hb6) (zq w3 gC 3 (.slice (some ⟨gM,0,none⟩) 1 cM));have bh7:=bh6.setOther (p:=⟨gC,3,none⟩) (by simp;omega) (.slice (some ⟨gM,0,none⟩) 1 cM);have br7:=br6.setOther (p:=⟨gC,3,none⟩) (by simp;omega) (.slice (some ⟨gM,0,none⟩) 1 cM);clear q0 qf ql d3 df hC6 ho3 bh6 br6 hb46 hgC6;generalize World.setCell _ _ _=W7 at *
 have hC8:=hC7.keptTyI br7.rowTyI (by decide) (zq W7 (w.heap.size+1) 0 (.slice (some ⟨gC,0,none⟩) 1 cC));have ho8:=ho7.keptTyI br7.rowTyI (by decide) (zq W7 (w.heap.size+1) 0 (.slice (some ⟨gC,0,none⟩) 1 cC));have hg8:=agJ hg7 (b:=w.heap.size+1) (by omega) 0 (.slice (some ⟨gC,0,none⟩) 1 cC);have bz:=br7.set 0 (.slice (some ⟨gC,0,none⟩) 1 cC);have q0:=bh7.cell 0 rfl;have qf:=fun i=>bh7.free i
 have ql:=bh7.lt;have z0:=br7.cell 0 rfl;have zf:=fun i=>br7.free i
 have zl:=br7.lt
 go_wp2_with fail
 clear q0 qf ql z0 zf zl bh7 br7 hC7 ho7 hg7;generalize World.setCell _ _ _=wz at *
 have y0:=bz.cell 0 rfl;refine bodyPost_ret (v:= .tuple #[.agg #[.slice (some ⟨gC,0,none⟩) 1 cC],.bool true]) (by simp[results,Tryz.results74,go_sem,y0]) rfl ?_;exact⟨gM,cM,rfl,hC8,ho8,hg8⟩
theorem Box.store7{w:World}{b:Nat}{a0 a1 a2 a3 a4 a5 a6:Value}{t:TypeId}(h:Box w b [a0,a1,a2,a3,a4,a5,a6] t)(v0 v1 v2 v3 v4 v5 v6:Value) :
  Box (((((((w.setCell ⟨b,0,none⟩ v0).setCell ⟨b,1,none⟩ v1).setCell ⟨b,2,none⟩ v2).setCell ⟨b,3,none⟩ v3).setCell ⟨b,4,none⟩ v4).setCell ⟨b,5,none⟩ v5).setCell ⟨b,6,none⟩ v6) b [v0,v1,v2,v3,v4,v5,v6] t∧w.grownBy (((((((w.setCell ⟨b,0,none⟩ v0).setCell ⟨b,1,none⟩ v1).setCell ⟨b,2,none⟩ v2).setCell ⟨b,3,none⟩ v3).setCell ⟨b,4,none⟩ v4).setCell ⟨b,5,none⟩ v5).setCell ⟨b,6,none⟩ v6) (some b):=
 ⟨((((((h.set 0 v0).set 1 v1).set 2 v2).set 3 v3).set 4 v4).set 5 v5).set 6 v6,zJ (zJ (zJ (zJ (zJ (zJ (zq _ _ _ _) (zq _ _ _ _)) (zq _ _ _ _)) (zq _ _ _ _)) (zq _ _ _ _)) (zq _ _ _ _)) (zq _ _ _ _)⟩
theorem afX(w:World)(B B2 gC cC gM cM:Nat)(hC:Own jw 4 B 94 w (.slice (some ⟨gC,0,none⟩) 1 cC) [clV gM cM])(hM:Own jO 4 B2 36 w (.slice (some ⟨gM,0,none⟩) 1 cM) [sgV]) :
  Calls Tryz.prog 145 #[.agg #[.slice (some ⟨gC,0,none⟩) 1 cC],.string ⟨#[77,97,105,110]⟩,.string ⟨#[109,97,105,110]⟩] w fun e w'=>e = .returned (.agg #[.string ⟨#[77,97,105,110]⟩,.string ⟨#[109,97,105,110]⟩,.bool true,.int .i64 0,.slice none 0 0,.string ⟨#[]⟩,.slice none 0 0])∧Below w.heap.size w w':=by
 have hgC:=(Own.ltOf hC).2;have hgM:=(Own.ltOf hM).2
 have HM:Hid (∀W,Below w.heap.size w W→(gC<W.heap.size∧gM<W.heap.size)∧W.cell? ⟨gC,0,none⟩=some (.string ⟨#[77,97,105,110]⟩)∧W.cell? ⟨gC,3,none⟩=some (.slice (some ⟨gM,0,none⟩) 1 cM)∧W.cell? ⟨gM,0,none⟩=some (.string ⟨#[109,97,105,110]⟩)∧W.cell? ⟨gM,1,none⟩=some (.bool true)∧W.cell? ⟨gM,2,none⟩=some (.slice none 0 0)∧W.cell? ⟨gM,3,none⟩=some (.string ⟨#[]⟩)):=fun W h=>
  ⟨⟨Nat.lt_of_lt_of_le hgC h.size,Nat.lt_of_lt_of_le hgM h.size⟩,zK qR (hC.mono h) rfl,zK qR (hC.mono h) rfl,zK jv (hM.mono h) rfl,zK jv (hM.mono h) rfl,zK jv (hM.mono h) rfl,zK jv (hM.mono h) rfl⟩
 clear hC hM hgC hgM
 go_enter Tryz.func145,Tryz.ntmps145
 go_upto_region 2 with fail
 generalize hW:World.alloc (World.alloc (World.alloc _ _) _) _=W1 at *
 have hb1:Below w.heap.size w W1:=by rw[←hW];exact(by repeat(first|assumption|exact v9r|apply zc|apply zd|apply zg|apply ze|apply zi))
 have bh:Box W1 w.heap.size [.slice (some ⟨gC,0,none⟩) 1 cC] 29:=by rw[←hW];exact((Box.new _ _ _).alloc _).alloc _
 have br:Box W1 (w.heap.size+1) [.string ⟨#[]⟩,.string ⟨#[]⟩,.bool false,.int .i64 0,.slice none 0 0,.string ⟨#[]⟩,.slice none 0 0] 42:=by rw[←hW];exact Box.alloc (w:=(w.alloc _).alloc _) (Box.at (w:=w.alloc _) (by simp)) _
 have bf:Box W1 (w.heap.size+2) [.string ⟨#[77,97,105,110]⟩,.string ⟨#[109,97,105,110]⟩,.bool false,.int .i64 0,.slice none 0 0,.string ⟨#[]⟩,.slice none 0 0] 42:=by rw[←hW];refine Box.at (w:=(w.alloc _).alloc _) ?_;simp
 clear hW;obtain⟨⟨hgC,hgM⟩,d0,d3,m0,m1,m2,m3⟩:=HM.out _ hb1;have q0:=bh.cell 0 rfl;have qf:=fun i=>bh.free i
 have ql:=bh.lt
 go_wp2_with fail
 refine wp_loop_rounds 1 ?_;rw[rounds_succ]
 go_wp2_with fail
 refine wp_loop_rounds 1 ?_;rw[rounds_succ]
 go_upto_region 10 with fail
 have bf2:=bf.set 2 (.bool true);have y2:=bf.cell 2 rfl;have yl:=bf.lt;have yf:=fun i=>bf.free i
 go_upto_region 11 with fail
 have hb2:=hb1.grown (zq W1 (w.heap.size+2) 2 (.bool true)) hb1.size (fun k hk=>by injection hk with hk;omega);have bh2:=bh.setOther (p:=⟨w.heap.size+2,2,none⟩) (by simp) (.bool true);have br2:=br.setOther (p:=⟨w.heap.size+2,2,none⟩) (by simp) (.bool true);clear hgC hgM d0 d3 m0 m1 m2 m3 q0 qf ql y2 yl yf bf bh br hb1;generalize World.setCell _ _ _=W2 at *
 obtain⟨⟨hgC,hgM⟩,d0,d3,m0,m1,m2,m3⟩:=HM.out _ hb2;have y5:=bf2.cell 5 rfl;have yl:=bf2.lt;have yf:=fun i=>bf2.free i
 go_upto_region 12 with fail
 have hb3:=hb2.grown (zq W2 (w.heap.size+2) 5 (.string ⟨#[]⟩)) hb2.size (fun k hk=>by injection hk with hk;omega);have bf3:=bf2.set 5 (.string ⟨#[]⟩);have br3:=br2.setOther (p:=⟨w.heap.size+2,5,none⟩) (by simp) (.string ⟨#[]⟩);clear hgC hgM d0 d3 m0 m1 m2 m3 y5 yl yf bf2 bh2 br2 hb2;generalize World.setCell _ _ _=W3 at *
 obtain⟨⟨hgC,hgM⟩,d0,d3,m0,m1,m2,m3⟩:=HM.out _ hb3;have y3:=bf3.cell 3 rfl;have yl:=bf3.lt;have yf:=fun i=>bf3.free i
 go_upto_region 13 with fail
 have hb4:=hb3.grown (zq W3 (w.heap.size+2) 3 (.int .i64 0)) hb3.size (fun k hk=>by injection hk with hk;omega);have bf4:=bf3.set 3 (.int .i64 0);have br4:=br3.setOther (p:=⟨w.heap.size+2,3,none⟩) (by simp) (.int .i64 0);clear hgC hgM d0 d3 m0 m1 m2 m3 y3 yl yf bf3 br3 hb3;generalize World.setCell _ _ _=W4 at *
 have y0:=bf4.cell 0 rfl;have y1:=bf4.cell 1 rfl;have y2:=bf4.cell 2 rfl;have y3:=bf4.cell 3 rfl;have y4:=bf4.cell 4 rfl;have y5:=bf4.cell 5 rfl;have y6:=bf4.cell 6 rfl;have yf:=fun i=>bf4.free i
 have yl:=bf4.lt;have z0:=br4.cell 0 rfl;have z1:=br4.cell 1 rfl;have z2:=br4.cell 2 rfl;have z3:=br4.cell 3 rfl;have z4:=br4.cell 4 rfl;have z5:=br4.cell 5 rfl;have z6:=br4.cell 6 rfl;have zf:=fun i=>br4.free i
 have zl:=br4.lt
 go_wp2_with fail
 obtain⟨bz,hgz⟩:=br4.store7 (.string ⟨#[77,97,105,110]⟩) (.string ⟨#[109,97,105,110]⟩) (.bool true) (.int .i64 0) (.slice none 0 0) (.string ⟨#[]⟩) (.slice none 0 0);have hbz:=hb4.grown hgz hb4.size (fun k hk=>by injection hk with hk;omega);clear y0 y1 y2 y3 y4 y5 y6 yf yl z0 z1 z2 z3 z4 z5 z6 zf zl bf4 br4 hgz hb4;generalize World.setCell _ _ _=wz at *
 have y0:=bz.cell 0 rfl;have y1:=bz.cell 1 rfl;have y2:=bz.cell 2 rfl;have y3:=bz.cell 3 rfl;have y4:=bz.cell 4 rfl;have y5:=bz.cell 5 rfl;have y6:=bz.cell 6 rfl;have yf:=fun i=>bz.free i
 have yl:=bz.lt;clear yf yl;refine bodyPost_ret (v:= .agg #[.string ⟨#[77,97,105,110]⟩,.string ⟨#[109,97,105,110]⟩,.bool true,.int .i64 0,.slice none 0 0,.string ⟨#[]⟩,.slice none 0 0]) (by simp[results,Tryz.results145,go_sem,y0,y1,y2,y3,y4,y5,y6]) rfl ?_;exact⟨rfl,hbz⟩
structure KpP(w w':World):Prop where
 os:w'.os=w.os
 tape:w'.tape=w.tape
 output:w'.output=w.output
 size:w.heap.size≤w'.heap.size
 blk:∀(b:Nat) (cs:Array Value) (t:TypeId) (fr:Nat×Nat),w.heap[b]? = some (Obj.cells cs t fr)→t≠42→t≠59→w'.heap[b]? = some (Obj.cells cs t fr)
theorem KpP.refl(w:World):KpP w w:=⟨rfl,rfl,rfl,Nat.le_refl _,fun _ _ _ _ h _ _=>h⟩
theorem KpP.trans{a b c:World}(h:KpP a b)(k:KpP b c):KpP a c:=⟨k.os.trans h.os,k.tape.trans h.tape,k.output.trans h.output,Nat.le_trans h.size k.size,fun _ _ _ _ e h1 h2=>k.blk _ _ _ _ (h.blk _ _ _ _ e h1 h2) h1 h2⟩
theorem KpP.drew{w w':World}(h:KpP w w'):KpP w w'.drew:=⟨h.os,h.tape,h.output,h.size,h.blk⟩
theorem KpP.below{w w':World}(h:Below w.heap.size w w'):KpP w w':=⟨h.os,h.tape,h.output,h.size,fun b _ _ _ e _ _=>(h.block b (Array.getElem?_eq_some_iff.1 e).1).trans e⟩
theorem KpP.row{w w':World}{row:Option Nat}{t:TypeId}(h:w.grownBy w' row)(hr:qs w row t)(ht:t=42∨t=59):KpP w w':=
 ⟨h.os,h.tape,h.output,h.size,fun b cs t' fr e h1 h2=>(h.block b (Array.getElem?_eq_some_iff.1 e).1 (fun hb=>by
  obtain⟨cs2,fr2,e2⟩:=hr b hb.symm;rw[e] at e2;injection e2 with e2
  injection e2 with _ e2 _
  subst e2
  rcases ht with rfl|rfl
  ·exact h1 rfl
  ·exact h2 rfl)).trans e⟩
theorem KpP.new{w W W':World}{b:Nat}(h:KpP w W)(hg:W.grownBy W' (some b))(hb:w.heap.size≤b):KpP w W':=
 ⟨hg.os.trans h.os,hg.tape.trans h.tape,hg.output.trans h.output,Nat.le_trans h.size hg.size,fun k cs t fr e h1 h2=>by
  have hk:=(Array.getElem?_eq_some_iff.1 e).1;have e1:=h.blk k cs t fr e h1 h2;exact(hg.block k (Array.getElem?_eq_some_iff.1 e1).1 (by intro hh;injection hh with hh;omega)).trans e1⟩
theorem Own.keptP{α:Type}{cells:α→List Value}{size base:Nat}{e:TypeId}{w w':World}{v:Value}{l:List α}(h:Own cells size base e w v l)(hk:KpP w w')(h1:e≠42)(h2:e≠59):Own cells size base e w' v l:=by
 refine⟨h.1,?_⟩
 rcases h.2 with h3|⟨g,cap,cur,hv,hb,hh,h4⟩
 ·exact Or.inl h3
 ·exact Or.inr ⟨g,cap,cur,hv,hb,hk.blk _ _ _ _ hh h1 h2,h4⟩
theorem Box.keptP{w w':World}{b:Nat}{cs:List Value}{t:TypeId}(h:Box w b cs t)(hk:KpP w w')(h1:t≠42)(h2:t≠59):Box w' b cs t:=hk.blk _ _ _ _ h h1 h2
def fdV:Fld:=⟨⟨#[120]⟩,⟨#[105,110,116]⟩⟩
def inV1:RI:=(⟨5,0,0,0,0,⟨#[]⟩,⟨#[]⟩,[],0,-1⟩,none,0)
def inV2:RI:=(⟨13,0,-1,0,0,⟨#[]⟩,⟨#[]⟩,[],0,-1⟩,none,0)
def fnV(vars:List Fld)(code:List Ins)(A:Option Addr×Nat)(B:Option Addr×Nat):RFn:=(⟨⟨#[77,97,105,110]⟩,⟨#[109,97,105,110]⟩,true,0,vars,⟨#[]⟩,code⟩,A,B)
def ajy(w:World)(gC cC:Nat)(w':World)(e:Ending):Prop:=∃gF cF:Nat,e = .returned (.tuple #[.agg #[.slice (some ⟨gC,0,none⟩) 1 cC,.slice (some ⟨gF,0,none⟩) 1 cF,.int .i64 0],.bool true])∧Own qz 7 w.heap.size 42 w' (.slice (some ⟨gF,0,none⟩) 1 cF) [fnV [] [] (none,0) (none,0)]
theorem aea(w:World)(B B2 gC cC gM cM:Nat)(hC:Own jw 4 B 94 w (.slice (some ⟨gC,0,none⟩) 1 cC) [clV gM cM])(hM:Own jO 4 B2 36 w (.slice (some ⟨gM,0,none⟩) 1 cM) [sgV])(g c:Nat)(hc:3≤c)(hg:g<w.heap.size)(h0:w.cell? ⟨g,0,none⟩=some (.string ⟨#[102,117,110,99]⟩))(h1:w.cell? ⟨g,1,none⟩=some (.string ⟨#[77,97,105,110]⟩))(h2:w.cell? ⟨g,2,none⟩=some (.string ⟨#[109,97,105,110]⟩)) :
  Calls Tryz.prog 75 #[.agg #[.slice (some ⟨gC,0,none⟩) 1 cC,.slice none 0 0,.int .i64 0],.slice (some ⟨g,0,none⟩) 3 c] w fun e w'=>ajy w gC cC w' e∧Below w.heap.size w w':=by
 have HBG:Hid (∀W,Below w.heap.size w W→Calls Tryz.prog 145 #[.agg #[.slice (some ⟨gC,0,none⟩) 1 cC],.string ⟨#[77,97,105,110]⟩,.string ⟨#[109,97,105,110]⟩] W fun e w'=>e = .returned (.agg #[.string ⟨#[77,97,105,110]⟩,.string ⟨#[109,97,105,110]⟩,.bool true,.int .i64 0,.slice none 0 0,.string ⟨#[]⟩,.slice none 0 0])∧Below W.heap.size W w'):=fun W h=>afX W B B2 gC cC gM cM (hC.mono h) (hM.mono h)
 clear hC hM;have HW:Hid (∀W,Below w.heap.size w W→g<W.heap.size∧W.cell? ⟨g,0,none⟩=some (.string ⟨#[102,117,110,99]⟩)∧W.cell? ⟨g,1,none⟩=some (.string ⟨#[77,97,105,110]⟩)∧W.cell? ⟨g,2,none⟩=some (.string ⟨#[109,97,105,110]⟩)):=fun W h=>⟨Nat.lt_of_lt_of_le hg h.size,keptC h0 hg h,keptC h1 hg h,keptC h2 hg h⟩
 have hcI:(3:Int)≤(c:Int):=by omega
 clear h0 h1 h2 hg
 go_enter Tryz.func75,Tryz.ntmps75
 go_upto_region 1 with fail
 generalize hW:World.alloc (World.alloc _ _) _=W1 at *
 have hb1:Below w.heap.size w W1:=by rw[←hW];exact(by repeat(first|assumption|exact v9r|apply zc|apply zd|apply zg|apply ze|apply zi))
 have bu:Box W1 w.heap.size [.slice (some ⟨gC,0,none⟩) 1 cC,.slice none 0 0,.int .i64 0] 32:=by rw[←hW];exact(Box.new _ _ _).alloc _
 have br:Box W1 (w.heap.size+1) [.slice none 0 0,.slice none 0 0,.int .i64 0] 32:=by rw[←hW];exact Box.at (w:=w.alloc _) (by simp)
 clear hW;obtain⟨hg,h0,h1,h2⟩:=HW.out _ hb1;have q0:=bu.cell 0 rfl;have q1:=bu.cell 1 rfl;have q2:=bu.cell 2 rfl;have qf:=fun i=>bu.free i
 have ql:=bu.lt
 go_upto_region 4 with fail
 refine zt 13 (by kernel_rfl) (by kernel_rfl) ?_;have hb2:=hb1.drew;have bu2:=bu.drew;have br2:=br.drew;clear hb1 bu br q0 q1 q2 qf ql hg h0 h1 h2;generalize W1.drew=W2 at *
 obtain⟨hg,h0,h1,h2⟩:=HW.out _ hb2;have q0:=bu2.cell 0 rfl;have q1:=bu2.cell 1 rfl;have q2:=bu2.cell 2 rfl;have qf:=fun i=>bu2.free i
 have ql:=bu2.lt;refine RZ.chunk (f:=3) [0,1,2,3,4,5,6,7,8,9] (by kernel_rfl) ?_
 ((simp only[zo,List.filterMap,List.getElem?_toArray,List.getElem?_cons_zero,List.getElem?_cons_succ]);(repeat(go_big_quiet_step (fail)));refine wpQuiet_nil ?_)
 refine RZ.single 10 rfl (by kernel_rfl) (by omega) ?_;intro K hK
 go_wp2_with fail
 refine(HBG.out _ hb2).mono ?_;rintro e W3 ⟨rfl,hb23⟩;clear q0 q1 q2 qf ql hg h0 h1 h2;have hb3:=za hb2 hb23;have bu3:=bu2.mono hb23;have br3:=br2.mono hb23
 go_wp2_with fail
 refine hK _ _ hb23 ?_;clear hK;refine RZ.single 11 rfl (by kernel_rfl) (by omega) ?_;intro K hK
 go_wp2_with fail
 refine hK _ _ (zc hb23) ?_;clear hK;refine RZ.single 12 rfl (by kernel_rfl) (by omega) ?_;intro K hK;generalize hW:World.alloc _ _=W5 at *
 have hb35:Below W3.heap.size W3 W5:=by rw[←hW];exact zc (v9r)
 have bn:Box W5 W3.heap.size [.string ⟨#[77,97,105,110]⟩,.string ⟨#[109,97,105,110]⟩,.bool true,.int .i64 0,.slice none 0 0,.string ⟨#[]⟩,.slice none 0 0] 42:=by rw[←hW];exact Box.new _ _ _
 clear hW;have hb25:=za hb23 hb35;refine zF aiD zV rfl (.tmp 18) (.tmp 28) rfl W3.heap.size _ _ rfl Own.nil (fnV [] [] (none,0) (none,0)) _ _ rfl (fun j u hj=>bn.cell j hj) (by simp[maxLen]) (by simp) hb35.size ?_;intro v3 w3 ho3 hc3 hg3;have hb36:Below W3.heap.size W3 w3:=hb35.trans hc3;have hb6:=za hb3 hb36;have hb26:=za hb23 hb36;obtain⟨gF,cF,rfl⟩:=ho3.someOf (by simp);have bu6:=bu3.mono hb36;have br6:=br3.mono hb36;replace ho3:=Own.base0 ho3 hb3.size;clear bu3 br3 bu2 br2 bn hg3 hc3 hb25 hb36 hb35 hb23 hb2 hb3
 go_wp2_with fail
 refine hK _ _ hb26 ?_;clear hK hb26
 (refine RZ.tail (by kernel_rfl) ?_;(simp only[List.drop_succ_cons,List.drop_zero]))
 have q0:=bu6.cell 0 rfl;have q1:=bu6.cell 1 rfl;have q2:=bu6.cell 2 rfl;have qf:=fun i=>bu6.free i
 have ql:=bu6.lt
 go_upto_region 5 with fail
 have ho7:=ho3.keptTyI bu6.rowTyI (by decide) (zq w3 w.heap.size 1 (.slice (some ⟨gF,0,none⟩) 1 cF));have bu7:=bu6.set 1 (.slice (some ⟨gF,0,none⟩) 1 cF);have br7:=br6.setOther (p:=⟨w.heap.size,1,none⟩) (by simp) (.slice (some ⟨gF,0,none⟩) 1 cF);have hb7:=hb6.grown (zq w3 w.heap.size 1 (.slice (some ⟨gF,0,none⟩) 1 cF)) hb6.size (fun k hk=>by injection hk with hk;omega);clear q0 q1 q2 qf ql bu6 br6 ho3 hb6;generalize World.setCell _ _ _=W7 at *
 have q0:=bu7.cell 0 rfl;have q1:=bu7.cell 1 rfl;have q2:=bu7.cell 2 rfl;have qf:=fun i=>bu7.free i
 have ql:=bu7.lt;have z0:=br7.cell 0 rfl;have z1:=br7.cell 1 rfl;have z2:=br7.cell 2 rfl;have zf:=fun i=>br7.free i
 have zl:=br7.lt
 go_wp2_with fail
 obtain⟨bz,hgz⟩:=br7.store3 (.slice (some ⟨gC,0,none⟩) 1 cC) (.slice (some ⟨gF,0,none⟩) 1 cF) (.int .i64 0);have hbz:=hb7.grown hgz hb7.size (fun k hk=>by injection hk with hk;omega);have hoz:=ho7.keptTyI br7.rowTyI (by decide) hgz;clear q0 q1 q2 qf ql z0 z1 z2 zf zl bu7 br7 ho7 hgz hb7;generalize World.setCell _ _ _=wz at *
 have y0:=bz.cell 0 rfl;have y1:=bz.cell 1 rfl;have y2:=bz.cell 2 rfl;have yf:=fun i=>bz.free i
 have yl:=bz.lt;clear yf yl;refine bodyPost_ret (v:= .tuple #[.agg #[.slice (some ⟨gC,0,none⟩) 1 cC,.slice (some ⟨gF,0,none⟩) 1 cF,.int .i64 0],.bool true]) (by simp[results,Tryz.results75,go_sem,y0,y1,y2]) rfl ?_;exact⟨⟨gF,cF,rfl,hoz⟩,hbz⟩
def ajz(w:World)(B gC cC gF cF:Nat)(w':World)(e:Ending):Prop:=∃gV cV:Nat,e = .returned (.tuple #[.agg #[.slice (some ⟨gC,0,none⟩) 1 cC,.slice (some ⟨gF,0,none⟩) 1 cF,.int .i64 0],.bool true])∧Own qz 7 B 42 w' (.slice (some ⟨gF,0,none⟩) 1 cF) [fnV [fdV] [] (some ⟨gV,0,none⟩,cV) (none,0)]∧Own qM 2 w.heap.size 61 w' (.slice (some ⟨gV,0,none⟩) 1 cV) [fdV]∧KpP w w'∧Below B w w'
theorem aeV(w:World)(B gC cC gF cF:Nat)(hB:B≤w.heap.size)(hF:Own qz 7 B 42 w (.slice (some ⟨gF,0,none⟩) 1 cF) [fnV [] [] (none,0) (none,0)])(g c:Nat)(hc:3≤c)(hg:g<w.heap.size)(h0:w.cell? ⟨g,0,none⟩=some (.string ⟨#[118,97,114]⟩))(h1:w.cell? ⟨g,1,none⟩=some (.string ⟨#[120]⟩))(h2:w.cell? ⟨g,2,none⟩=some (.string ⟨#[105,110,116]⟩)) :
  Calls Tryz.prog 75 #[.agg #[.slice (some ⟨gC,0,none⟩) 1 cC,.slice (some ⟨gF,0,none⟩) 1 cF,.int .i64 0],.slice (some ⟨g,0,none⟩) 3 c] w fun e w'=>ajz w B gC cC gF cF w' e:=by
 have hgF:=(Own.ltOf hF).2;have hgB:=(Own.ltOf hF).1;have HW:Hid (∀W,Below w.heap.size w W→g<W.heap.size∧W.cell? ⟨g,0,none⟩=some (.string ⟨#[118,97,114]⟩)∧W.cell? ⟨g,1,none⟩=some (.string ⟨#[120]⟩)∧W.cell? ⟨g,2,none⟩=some (.string ⟨#[105,110,116]⟩)):=fun W h=>⟨Nat.lt_of_lt_of_le hg h.size,keptC h0 hg h,keptC h1 hg h,keptC h2 hg h⟩
 have hcI:(3:Int)≤(c:Int):=by omega
 clear h0 h1 h2 hg
 go_enter Tryz.func75,Tryz.ntmps75
 go_upto_region 1 with fail
 generalize hW:World.alloc (World.alloc _ _) _=W1 at *
 have hb1:Below w.heap.size w W1:=by rw[←hW];exact(by repeat(first|assumption|exact v9r|apply zc|apply zd|apply zg|apply ze|apply zi))
 have bu:Box W1 w.heap.size [.slice (some ⟨gC,0,none⟩) 1 cC,.slice (some ⟨gF,0,none⟩) 1 cF,.int .i64 0] 32:=by rw[←hW];exact(Box.new _ _ _).alloc _
 have br:Box W1 (w.heap.size+1) [.slice none 0 0,.slice none 0 0,.int .i64 0] 32:=by rw[←hW];exact Box.at (w:=w.alloc _) (by simp)
 clear hW;obtain⟨hg,h0,h1,h2⟩:=HW.out _ hb1;have q0:=bu.cell 0 rfl;have q1:=bu.cell 1 rfl;have q2:=bu.cell 2 rfl;have qf:=fun i=>bu.free i
 have ql:=bu.lt
 go_upto_region 10 with fail
 refine zt 25 (by kernel_rfl) (by kernel_rfl) ?_;have hb2:=hb1.drew;have bu2:=bu.drew;have br2:=br.drew;clear hb1 bu br q0 q1 q2 qf ql hg h0 h1 h2;generalize W1.drew=W2 at *
 have hF2:=hF.mono hb2;have hgF2:=Nat.lt_of_lt_of_le hgF hb2.size;have d4:=zK zV hF2 (j:=4) (u:= .slice none 0 0) rfl;obtain⟨hg,h0,h1,h2⟩:=HW.out _ hb2;have q0:=bu2.cell 0 rfl;have q1:=bu2.cell 1 rfl;have q2:=bu2.cell 2 rfl;have qf:=fun i=>bu2.free i
 have ql:=bu2.lt;refine RZ.chunk (f:=6) [0,1,2,3,4,5,6,7,8,9,10,11,12,16,17,18,19,20,21] (by kernel_rfl) ?_
 ((simp only[zo,List.filterMap,List.getElem?_toArray,List.getElem?_cons_zero,List.getElem?_cons_succ]);(repeat(go_big_quiet_step (fail)));refine wpQuiet_nil ?_)
 refine RZ.single 13 rfl (by kernel_rfl) (by omega) ?_;intro K hK
 go_wp2_with fail
 refine hK _ _ (v9r) ?_;clear hK;rw[show(min (1:Int) 2)=1 from rfl];refine RZ.chunk (f:=2) [14,15,22] (by kernel_rfl) ?_
 ((simp only[zo,List.filterMap,List.getElem?_toArray,List.getElem?_cons_zero,List.getElem?_cons_succ]);(repeat(go_big_quiet_step (fail)));refine wpQuiet_nil ?_)
 clear q0 q1 q2 qf ql hg h0 h1 h2 d4;refine RZ.single 23 rfl (by kernel_rfl) (by omega) ?_;intro K hK
 go_wp2_with fail
 refine hK _ _ (zc (v9r)) ?_;clear hK;refine RZ.single 24 rfl (by kernel_rfl) (by omega) ?_;intro K hK;generalize hW:World.alloc _ _=W5 at *
 have hb25:Below W2.heap.size W2 W5:=by rw[←hW];exact zc (v9r)
 have bn:Box W5 W2.heap.size [.string ⟨#[120]⟩,.string ⟨#[105,110,116]⟩] 61:=by rw[←hW];exact Box.new _ _ _
 clear hW;refine zF aiB aeo rfl (.tmp 51) (.tmp 66) rfl W2.heap.size _ _ rfl Own.nil fdV _ _ rfl (fun j u hj=>bn.cell j hj) (by simp[maxLen]) (by simp) hb25.size ?_;intro v3 w3 ho3 hc3 hg3;have hb26:Below W2.heap.size W2 w3:=hb25.trans hc3;have hb6:=za hb2 hb26;obtain⟨gV,cV,rfl⟩:=ho3.someOf (by simp);have bu6:=bu2.mono hb26;have br6:=br2.mono hb26;have hF6:=hF2.mono hb26;have hgF6:=Nat.lt_of_lt_of_le hgF hb6.size;replace ho3:=Own.base0 ho3 hb2.size;clear bu2 br2 bn hg3 hc3 hb25 hb2 hgF2 hF2
 go_wp2_with fail
 refine hK _ _ hb26 ?_;clear hK hb26
 (refine RZ.tail (by kernel_rfl) ?_;(simp only[List.drop_succ_cons,List.drop_zero]))
 have q0:=bu6.cell 0 rfl;have q1:=bu6.cell 1 rfl;have q2:=bu6.cell 2 rfl;have qf:=fun i=>bu6.free i
 have ql:=bu6.lt;have d4:=zK zV hF6 (j:=4) (u:= .slice none 0 0) rfl;have df:=fun i=>xe hF6 i
 go_upto_region 11 with fail
 have hF7:=xP zV hF6 (j:=4) (by omega) (.slice (some ⟨gV,0,none⟩) 1 cV) (fnV [fdV] [] (some ⟨gV,0,none⟩,cV) (none,0)) rfl;have ho7:=ho3.keptTyI (Own.rowTyI hF6) (by decide) (zq w3 gF 4 (.slice (some ⟨gV,0,none⟩) 1 cV));have hk7:=(KpP.below hb6).trans (KpP.row (zq w3 gF 4 (.slice (some ⟨gV,0,none⟩) 1 cV)) (Own.rowTyI hF6) (Or.inl rfl));have hB7:Below B w (w3.setCell ⟨gF,4,none⟩ (.slice (some ⟨gV,0,none⟩) 1 cV)):=(hb6.mono hB).grown (zq w3 gF 4 (.slice (some ⟨gV,0,none⟩) 1 cV)) (Nat.le_trans hB hb6.size) (fun k hk=>by injection hk with hk;omega);have bu7:=bu6.setOther (p:=⟨gF,4,none⟩) (by simp;omega) (.slice (some ⟨gV,0,none⟩) 1 cV);have br7:=br6.setOther (p:=⟨gF,4,none⟩) (by simp;omega) (.slice (some ⟨gV,0,none⟩) 1 cV);have hg7:=hgF6;have hW7:Hid (∀W,Below w.heap.size w W→(W.setCell ⟨gF,4,none⟩ (.slice (some ⟨gV,0,none⟩) 1 cV)).heap.size=W.heap.size):=fun W h=>by simp
 have hs7:=hW7.out _ hb6;have hw7:Hid (g<(w3.setCell ⟨gF,4,none⟩ (.slice (some ⟨gV,0,none⟩) 1 cV)).heap.size):=by show _<_;rw[hs7];exact(HW.out _ hb6).1
 rw[←hs7] at hg7;clear q0 q1 q2 qf ql bu6 br6 ho3 hb6 d4 df hF6 hgF6 hs7 hW7;generalize World.setCell _ _ _=W7 at *
 have bu8:=bu7.drew;have br8:=br7.drew;have hF8:Own qz 7 B 42 W7.drew (.slice (some ⟨gF,0,none⟩) 1 cF) [fnV [fdV] [] (some ⟨gV,0,none⟩,cV) (none,0)]:=hF7;have ho8:Own qM 2 w.heap.size 61 W7.drew (.slice (some ⟨gV,0,none⟩) 1 cV) [fdV]:=ho7;have hB8:=hB7.drew;have hk8:=hk7.drew;have hg8:gF<W7.drew.heap.size:=hg7;have d6:=zK zV hF8 (j:=6) (u:= .slice none 0 0) rfl;obtain⟨bz,hgz⟩:=br8.store3 (.slice (some ⟨gC,0,none⟩) 1 cC) (.slice (some ⟨gF,0,none⟩) 1 cF) (.int .i64 0);have buz:=bu8.grown hgz (by simp);have d6z:=zK zV (hF8.keptTyI br8.rowTyI (by decide) hgz) (j:=6) (u:= .slice none 0 0) rfl;refine ji (S:=fun w'=>w'.cell? ⟨w.heap.size,0,none⟩=some (.slice (some ⟨gC,0,none⟩) 1 cC)∧w'.cell? ⟨w.heap.size,1,none⟩=some (.slice (some ⟨gF,0,none⟩) 1 cF)∧w'.cell? ⟨w.heap.size,2,none⟩=some (.int .i64 0)∧w'.cell? ⟨gF,6,none⟩=some (.slice none 0 0)) 16 (by kernel_rfl) ⟨bu8.cell 0 rfl,bu8.cell 1 rfl,bu8.cell 2 rfl,d6⟩ (by kernel_rfl) ?_;have K1:=v9h (And.intro (buz.cell 0 rfl) (And.intro (buz.cell 1 rfl) (And.intro (buz.cell 2 rfl) d6z)));have hsome:Nonempty (Held (fun w':World=>w'.cell? ⟨w.heap.size,0,none⟩=some (.slice (some ⟨gC,0,none⟩) 1 cC)∧w'.cell? ⟨w.heap.size,1,none⟩=some (.slice (some ⟨gF,0,none⟩) 1 cF)∧w'.cell? ⟨w.heap.size,2,none⟩=some (.int .i64 0)∧w'.cell? ⟨gF,6,none⟩=some (.slice none 0 0))):=⟨⟨_,bu8.cell 0 rfl,bu8.cell 1 rfl,bu8.cell 2 rfl,d6⟩⟩
 clear bu7 br7 hF7 ho7 hB7 hk7 hg7 d6 d6z;generalize W7.drew=W8 at *
 refine RC.chunk (f:=2) [0,1,2,3,4,5,6,7,8,9,10,11,12,13] (by kernel_rfl) ?_;have hh2:∀x:Held (fun w':World=>w'.cell? ⟨w.heap.size,0,none⟩=some (.slice (some ⟨gC,0,none⟩) 1 cC)∧w'.cell? ⟨w.heap.size,1,none⟩=some (.slice (some ⟨gF,0,none⟩) 1 cF)∧w'.cell? ⟨w.heap.size,2,none⟩=some (.int .i64 0)∧w'.cell? ⟨gF,6,none⟩=some (.slice none 0 0)),x.W.cell? ⟨w.heap.size,0,none⟩=some (.slice (some ⟨gC,0,none⟩) 1 cC)∧x.W.cell? ⟨w.heap.size,1,none⟩=some (.slice (some ⟨gF,0,none⟩) 1 cF)∧x.W.cell? ⟨w.heap.size,2,none⟩=some (.int .i64 0)∧x.W.cell? ⟨gF,6,none⟩=some (.slice none 0 0):=fun x=>x.h
 have hq0:=fun x=>(hh2 x).1
 have hq1:=fun x=>(hh2 x).2.1
 have hq2:=fun x=>(hh2 x).2.2.1
 have hq3:=fun x=>(hh2 x).2.2.2
 clear hh2
 ((simp only[zo,List.filterMap,List.getElem?_toArray,List.getElem?_cons_zero,List.getElem?_cons_succ]);(repeat(go_big_quiet_step (fail)));refine wpQuiet_nil ?_)
 have z0:=br8.cell 0 rfl;have z1:=br8.cell 1 rfl;have z2:=br8.cell 2 rfl;have zf:=fun i=>br8.free i
 have zl:=br8.lt;refine RC.single 14 rfl (by kernel_rfl) (by omega) ?_;intro K hK
 go_wp2_with fail
 refine hK _ _ K1.out ?_;clear hK;refine RC.chunk (f:=0) [15] (by kernel_rfl) ?_
 ((simp only[zo,List.filterMap,List.getElem?_toArray,List.getElem?_cons_zero,List.getElem?_cons_succ]);(repeat(go_big_quiet_step (fail)));refine wpQuiet_nil ?_)
 refine RC.done (by kernel_rfl) (by kernel_rfl) ?_
 go_wp2_with fail
 have hoz:=ho8.keptTyI br8.rowTyI (by decide) hgz;have hFz:=hF8.keptTyI br8.rowTyI (by decide) hgz;have hkz:=KpP.new hk8 hgz (by omega);have hBz:=hB8.grown hgz (Nat.le_trans hB hB8.size) (fun k hk=>by injection hk with hk;omega);clear z0 z1 z2 zf zl bu8 br8 ho8 hF8 hgz hk8 hB8 hq0 hq1 hq2 hq3 buz;generalize World.setCell _ _ _=wz at *
 have y0:=bz.cell 0 rfl;have y1:=bz.cell 1 rfl;have y2:=bz.cell 2 rfl;have yf:=fun i=>bz.free i
 have yl:=bz.lt;clear yf yl;refine bodyPost_ret (v:= .tuple #[.agg #[.slice (some ⟨gC,0,none⟩) 1 cC,.slice (some ⟨gF,0,none⟩) 1 cF,.int .i64 0],.bool true]) (by simp[results,Tryz.results75,go_sem,y0,y1,y2]) rfl ?_;exact⟨gV,cV,rfl,hFz,hoz,hkz,hBz⟩
def ab7(w:World)(B gC cC gF cF gV cV:Nat)(w':World)(e:Ending):Prop:=∃gJ cJ:Nat,e = .returned (.tuple #[.agg #[.slice (some ⟨gC,0,none⟩) 1 cC,.slice (some ⟨gF,0,none⟩) 1 cF,.int .i64 0],.bool true])∧Own qz 7 B 42 w' (.slice (some ⟨gF,0,none⟩) 1 cF) [fnV [fdV] [inV1.1] (some ⟨gV,0,none⟩,cV) (some ⟨gJ,0,none⟩,cJ)]∧Own jP 10 B 59 w' (.slice (some ⟨gJ,0,none⟩) 1 cJ) [inV1]∧KpP w w'∧Below B w w'
theorem afY(w:World)(B gC cC gF cF gV cV:Nat)(hB:B≤w.heap.size)(hF:Own qz 7 B 42 w (.slice (some ⟨gF,0,none⟩) 1 cF) [fnV [fdV] [] (some ⟨gV,0,none⟩,cV) (none,0)])(g c:Nat)(hc:3≤c)(hg:g<w.heap.size)(h0:w.cell? ⟨g,0,none⟩=some (.string ⟨#[45,49]⟩))(h1:w.cell? ⟨g,1,none⟩=some (.string ⟨#[105,110,112,117,116]⟩))(h2:w.cell? ⟨g,2,none⟩=some (.string ⟨#[48]⟩)) :
  Calls Tryz.prog 75 #[.agg #[.slice (some ⟨gC,0,none⟩) 1 cC,.slice (some ⟨gF,0,none⟩) 1 cF,.int .i64 0],.slice (some ⟨g,0,none⟩) 3 c] w fun e w'=>ab7 w B gC cC gF cF gV cV w' e:=by
 have HPI:Hid (∀W,Below w.heap.size w W→Calls Tryz.prog 146 #[.slice (some ⟨g,0,none⟩) 3 c] W fun e w'=>e = .returned (.tuple #[.agg #[.int .i64 5,.int .i64 0,.int .i64 0,.int .i64 0,.int .i64 0,.string ⟨#[]⟩,.string ⟨#[]⟩,.slice none 0 0,.int .i64 0,.int .i64 (-1)],.bool true])∧Below W.heap.size W w'):=fun W h=>aeR W g c hc (Nat.lt_of_lt_of_le hg h.size) (keptC h0 hg h) (keptC h1 hg h) (keptC h2 hg h)
 have hgF:=(Own.ltOf hF).2;have hgB:=(Own.ltOf hF).1;have HW:Hid (∀W,Below w.heap.size w W→g<W.heap.size∧W.cell? ⟨g,0,none⟩=some (.string ⟨#[45,49]⟩)∧W.cell? ⟨g,1,none⟩=some (.string ⟨#[105,110,112,117,116]⟩)∧W.cell? ⟨g,2,none⟩=some (.string ⟨#[48]⟩)):=fun W h=>⟨Nat.lt_of_lt_of_le hg h.size,keptC h0 hg h,keptC h1 hg h,keptC h2 hg h⟩
 have hcI:(3:Int)≤(c:Int):=by omega
 clear h0 h1 h2 hg
 go_enter Tryz.func75,Tryz.ntmps75
 go_upto_region 1 with fail
 generalize hW:World.alloc (World.alloc _ _) _=W1 at *
 have hb1:Below w.heap.size w W1:=by rw[←hW];exact(by repeat(first|assumption|exact v9r|apply zc|apply zd|apply zg|apply ze|apply zi))
 have bu:Box W1 w.heap.size [.slice (some ⟨gC,0,none⟩) 1 cC,.slice (some ⟨gF,0,none⟩) 1 cF,.int .i64 0] 32:=by rw[←hW];exact(Box.new _ _ _).alloc _
 have br:Box W1 (w.heap.size+1) [.slice none 0 0,.slice none 0 0,.int .i64 0] 32:=by rw[←hW];exact Box.at (w:=w.alloc _) (by simp)
 clear hW;obtain⟨hg,h0,h1,h2⟩:=HW.out _ hb1;have q0:=bu.cell 0 rfl;have q1:=bu.cell 1 rfl;have q2:=bu.cell 2 rfl;have qf:=fun i=>bu.free i
 have ql:=bu.lt
 go_wp2_with fail
 refine(HPI.out _ hb1).mono ?_;rintro e W2 ⟨rfl,hb12⟩;have hb2:=za hb1 hb12;have bu2:=bu.mono hb12;have br2:=br.mono hb12;clear q0 q1 q2 qf ql hg h0 h1 h2 hb1 bu br hb12
 go_upto_region 13 with fail
 generalize hW:World.alloc _ _=W3 at *
 have hb3:Below w.heap.size w W3:=by rw[←hW];exact zc hb2
 have bu3:Box W3 w.heap.size [.slice (some ⟨gC,0,none⟩) 1 cC,.slice (some ⟨gF,0,none⟩) 1 cF,.int .i64 0] 32:=by rw[←hW];exact bu2.alloc _
 have br3:Box W3 (w.heap.size+1) [.slice none 0 0,.slice none 0 0,.int .i64 0] 32:=by rw[←hW];exact br2.alloc _
 have bs3:Box W3 W2.heap.size [.int .i64 5,.int .i64 0,.int .i64 0,.int .i64 0,.int .i64 0,.string ⟨#[]⟩,.string ⟨#[]⟩,.slice none 0 0,.int .i64 0,.int .i64 (-1)] 59:=by rw[←hW];exact Box.new _ _ _
 have hb7:w.heap.size≤W2.heap.size:=hb2.size;generalize hb7e:W2.heap.size=b7 at *
 clear hW bu2 br2 hb2 hb7e;have hb4:=hb3.drew;have bu4:=bu3.drew;have br4:=br3.drew;have bs4:=bs3.drew;clear hb3 bu3 br3 bs3;generalize hW:W3.drew=W4 at *
 have hF4:=hF.mono hb4;refine ji (S:=fun w'=>w'.cell? ⟨w.heap.size,0,none⟩=some (.slice (some ⟨gC,0,none⟩) 1 cC)∧w'.cell? ⟨w.heap.size,1,none⟩=some (.slice (some ⟨gF,0,none⟩) 1 cF)∧w'.cell? ⟨w.heap.size,2,none⟩=some (.int .i64 0)∧w'.cell? ⟨gF,6,none⟩=some (.slice none 0 0)∧w'.cell? ⟨b7,0,none⟩=some (.int .i64 5)∧w'.cell? ⟨b7,1,none⟩=some (.int .i64 0)∧w'.cell? ⟨b7,2,none⟩=some (.int .i64 0)∧w'.cell? ⟨b7,3,none⟩=some (.int .i64 0)∧w'.cell? ⟨b7,4,none⟩=some (.int .i64 0)∧w'.cell? ⟨b7,5,none⟩=some (.string ⟨#[]⟩)∧w'.cell? ⟨b7,6,none⟩=some (.string ⟨#[]⟩)∧w'.cell? ⟨b7,7,none⟩=some (.slice none 0 0)∧w'.cell? ⟨b7,8,none⟩=some (.int .i64 0)∧w'.cell? ⟨b7,9,none⟩=some (.int .i64 (-1))) 12 (by kernel_rfl) (by rw[hW];exact And.intro (bu4.cell 0 rfl) (And.intro (bu4.cell 1 rfl) (And.intro (bu4.cell 2 rfl) (And.intro (zK zV hF4 (j:=6) (u:= .slice none 0 0) rfl) (And.intro (bs4.cell 0 rfl) (And.intro (bs4.cell 1 rfl) (And.intro (bs4.cell 2 rfl) (And.intro (bs4.cell 3 rfl) (And.intro (bs4.cell 4 rfl) (And.intro (bs4.cell 5 rfl) (And.intro (bs4.cell 6 rfl) (And.intro (bs4.cell 7 rfl) (And.intro (bs4.cell 8 rfl) (bs4.cell 9 rfl)))))))))))))) (by kernel_rfl) ?_;rw[hW];clear hW;have hb45:Below W4.heap.size W4 (W4.alloc (.cells #[.int .i64 5,.int .i64 0,.int .i64 0,.int .i64 0,.int .i64 0,.string ⟨#[]⟩,.string ⟨#[]⟩,.slice none 0 0,.int .i64 0,.int .i64 (-1)] 59)):=zc (v9r);have bn5:Box (W4.alloc (.cells #[.int .i64 5,.int .i64 0,.int .i64 0,.int .i64 0,.int .i64 0,.string ⟨#[]⟩,.string ⟨#[]⟩,.slice none 0 0,.int .i64 0,.int .i64 (-1)] 59)) W4.heap.size [.int .i64 5,.int .i64 0,.int .i64 0,.int .i64 0,.int .i64 0,.string ⟨#[]⟩,.string ⟨#[]⟩,.slice none 0 0,.int .i64 0,.int .i64 (-1)] 59:=Box.new _ _ _;have bu5:=bu4.mono hb45;have br5:=br4.mono hb45;have bs5:=bs4.mono hb45;have hF5:=hF4.mono hb45;have hb5:=za hb4 hb45;have K1:=v9h (And.intro (bu5.cell 0 rfl) (And.intro (bu5.cell 1 rfl) (And.intro (bu5.cell 2 rfl) (And.intro (zK zV hF5 (j:=6) (u:= .slice none 0 0) rfl) (And.intro (bs5.cell 0 rfl) (And.intro (bs5.cell 1 rfl) (And.intro (bs5.cell 2 rfl) (And.intro (bs5.cell 3 rfl) (And.intro (bs5.cell 4 rfl) (And.intro (bs5.cell 5 rfl) (And.intro (bs5.cell 6 rfl) (And.intro (bs5.cell 7 rfl) (And.intro (bs5.cell 8 rfl) (bs5.cell 9 rfl))))))))))))));have hsome:Nonempty (Held (fun w':World=>w'.cell? ⟨w.heap.size,0,none⟩=some (.slice (some ⟨gC,0,none⟩) 1 cC)∧w'.cell? ⟨w.heap.size,1,none⟩=some (.slice (some ⟨gF,0,none⟩) 1 cF)∧w'.cell? ⟨w.heap.size,2,none⟩=some (.int .i64 0)∧w'.cell? ⟨gF,6,none⟩=some (.slice none 0 0)∧w'.cell? ⟨b7,0,none⟩=some (.int .i64 5)∧w'.cell? ⟨b7,1,none⟩=some (.int .i64 0)∧w'.cell? ⟨b7,2,none⟩=some (.int .i64 0)∧w'.cell? ⟨b7,3,none⟩=some (.int .i64 0)∧w'.cell? ⟨b7,4,none⟩=some (.int .i64 0)∧w'.cell? ⟨b7,5,none⟩=some (.string ⟨#[]⟩)∧w'.cell? ⟨b7,6,none⟩=some (.string ⟨#[]⟩)∧w'.cell? ⟨b7,7,none⟩=some (.slice none 0 0)∧w'.cell? ⟨b7,8,none⟩=some (.int .i64 0)∧w'.cell? ⟨b7,9,none⟩=some (.int .i64 (-1)))):=⟨⟨W4,And.intro (bu4.cell 0 rfl) (And.intro (bu4.cell 1 rfl) (And.intro (bu4.cell 2 rfl) (And.intro (zK zV hF4 (j:=6) (u:= .slice none 0 0) rfl) (And.intro (bs4.cell 0 rfl) (And.intro (bs4.cell 1 rfl) (And.intro (bs4.cell 2 rfl) (And.intro (bs4.cell 3 rfl) (And.intro (bs4.cell 4 rfl) (And.intro (bs4.cell 5 rfl) (And.intro (bs4.cell 6 rfl) (And.intro (bs4.cell 7 rfl) (And.intro (bs4.cell 8 rfl) (bs4.cell 9 rfl)))))))))))))⟩⟩
 clear bu4 br4 bs4 hF4 hb45;refine RC.chunk (f:=2) [0,1,2,3,4,5,6,7,8,9] (by kernel_rfl) ?_;have hh2:∀x:Held (fun w':World=>w'.cell? ⟨w.heap.size,0,none⟩=some (.slice (some ⟨gC,0,none⟩) 1 cC)∧w'.cell? ⟨w.heap.size,1,none⟩=some (.slice (some ⟨gF,0,none⟩) 1 cF)∧w'.cell? ⟨w.heap.size,2,none⟩=some (.int .i64 0)∧w'.cell? ⟨gF,6,none⟩=some (.slice none 0 0)∧w'.cell? ⟨b7,0,none⟩=some (.int .i64 5)∧w'.cell? ⟨b7,1,none⟩=some (.int .i64 0)∧w'.cell? ⟨b7,2,none⟩=some (.int .i64 0)∧w'.cell? ⟨b7,3,none⟩=some (.int .i64 0)∧w'.cell? ⟨b7,4,none⟩=some (.int .i64 0)∧w'.cell? ⟨b7,5,none⟩=some (.string ⟨#[]⟩)∧w'.cell? ⟨b7,6,none⟩=some (.string ⟨#[]⟩)∧w'.cell? ⟨b7,7,none⟩=some (.slice none 0 0)∧w'.cell? ⟨b7,8,none⟩=some (.int .i64 0)∧w'.cell? ⟨b7,9,none⟩=some (.int .i64 (-1))),x.W.cell? ⟨w.heap.size,0,none⟩=some (.slice (some ⟨gC,0,none⟩) 1 cC)∧x.W.cell? ⟨w.heap.size,1,none⟩=some (.slice (some ⟨gF,0,none⟩) 1 cF)∧x.W.cell? ⟨w.heap.size,2,none⟩=some (.int .i64 0)∧x.W.cell? ⟨gF,6,none⟩=some (.slice none 0 0)∧x.W.cell? ⟨b7,0,none⟩=some (.int .i64 5)∧x.W.cell? ⟨b7,1,none⟩=some (.int .i64 0)∧x.W.cell? ⟨b7,2,none⟩=some (.int .i64 0)∧x.W.cell? ⟨b7,3,none⟩=some (.int .i64 0)∧x.W.cell? ⟨b7,4,none⟩=some (.int .i64 0)∧x.W.cell? ⟨b7,5,none⟩=some (.string ⟨#[]⟩)∧x.W.cell? ⟨b7,6,none⟩=some (.string ⟨#[]⟩)∧x.W.cell? ⟨b7,7,none⟩=some (.slice none 0 0)∧x.W.cell? ⟨b7,8,none⟩=some (.int .i64 0)∧x.W.cell? ⟨b7,9,none⟩=some (.int .i64 (-1)):=fun x=>x.h
 have hq0:=fun x=>(hh2 x).1
 have hq1:=fun x=>(hh2 x).2.1
 have hq2:=fun x=>(hh2 x).2.2.1
 have hq3:=fun x=>(hh2 x).2.2.2.1
 have hq4:=fun x=>(hh2 x).2.2.2.2.1
 have hq5:=fun x=>(hh2 x).2.2.2.2.2.1
 have hq6:=fun x=>(hh2 x).2.2.2.2.2.2.1
 have hq7:=fun x=>(hh2 x).2.2.2.2.2.2.2.1
 have hq8:=fun x=>(hh2 x).2.2.2.2.2.2.2.2.1
 have hq9:=fun x=>(hh2 x).2.2.2.2.2.2.2.2.2.1
 have hq10:=fun x=>(hh2 x).2.2.2.2.2.2.2.2.2.2.1
 have hq11:=fun x=>(hh2 x).2.2.2.2.2.2.2.2.2.2.2.1
 have hq12:=fun x=>(hh2 x).2.2.2.2.2.2.2.2.2.2.2.2.1
 have hq13:=fun x=>(hh2 x).2.2.2.2.2.2.2.2.2.2.2.2.2
 clear hh2
 ((simp only[zo,List.filterMap,List.getElem?_toArray,List.getElem?_cons_zero,List.getElem?_cons_succ]);(repeat(go_big_quiet_step (fail)));refine wpQuiet_nil ?_)
 refine RC.single 10 rfl (by kernel_rfl) (by omega) ?_;intro K hK;clear hq0 hq1 hq2 hq3 hq4 hq5 hq6 hq7 hq8 hq9 hq10 hq11 hq12 hq13
 go_wp2_with fail
 refine hK _ _ K1.out ?_;clear hK;generalize World.alloc _ _=W5 at *
 refine RC.single 11 rfl (by kernel_rfl) (by omega) ?_;intro K hK;refine zF afb xO rfl (.tmp 97) (.tmp 99) rfl B _ _ rfl Own.nil inV1 _ _ rfl (fun j u hj=>bn5.cell j hj) (by simp[maxLen]) (by simp) (Nat.le_trans hB hb5.size) ?_;intro v3 w3 ho3 hc3 hg3;have hg4:World.grownBy W5 w3 none:=hg3;have hr4:qs W5 none 59:=fun b hb=>by cases hb
 have hk6:=(KpP.below hb5).trans (KpP.row hg4 hr4 (Or.inr rfl));have hB6:=(hb5.mono hB).trans hc3;obtain⟨gJ,cJ,rfl⟩:=ho3.someOf (by simp);have bu6:=bu5.keptP (KpP.row hg4 hr4 (Or.inr rfl)) (by decide) (by decide);have br6:=br5.keptP (KpP.row hg4 hr4 (Or.inr rfl)) (by decide) (by decide);have bs6:=bs5.grown hg4 (by simp);have hF6:=hF5.keptTyI hr4 (by decide) hg4;have hgF6:=Nat.lt_of_lt_of_le hgF hk6.size;have K2:=v9h (And.intro (bu6.cell 0 rfl) (And.intro (bu6.cell 1 rfl) (And.intro (bu6.cell 2 rfl) (And.intro (zK zV hF6 (j:=6) (u:= .slice none 0 0) rfl) (And.intro (bs6.cell 0 rfl) (And.intro (bs6.cell 1 rfl) (And.intro (bs6.cell 2 rfl) (And.intro (bs6.cell 3 rfl) (And.intro (bs6.cell 4 rfl) (And.intro (bs6.cell 5 rfl) (And.intro (bs6.cell 6 rfl) (And.intro (bs6.cell 7 rfl) (And.intro (bs6.cell 8 rfl) (bs6.cell 9 rfl))))))))))))));clear bu5 br5 bs5 hF5 bn5 hg3 hc3 hg4 hr4 hb5 hsome
 go_wp2_with fail
 refine hK _ _ K2.out ?_;clear hK;refine RC.tail (by kernel_rfl) ?_;simp only[List.drop_succ_cons,List.drop_zero];have q0:=bu6.cell 0 rfl;have q1:=bu6.cell 1 rfl;have q2:=bu6.cell 2 rfl;have qf:=fun i=>bu6.free i
 have ql:=bu6.lt;have d6:=zK zV hF6 (j:=6) (u:= .slice none 0 0) rfl;have df:=fun i=>xe hF6 i
 go_upto_region 14 with fail
 have hF7:=xP zV hF6 (j:=6) (by omega) (.slice (some ⟨gJ,0,none⟩) 1 cJ) (fnV [fdV] [inV1.1] (some ⟨gV,0,none⟩,cV) (some ⟨gJ,0,none⟩,cJ)) rfl;have ho7:=ho3.keptTyI (Own.rowTyI hF6) (by decide) (zq w3 gF 6 (.slice (some ⟨gJ,0,none⟩) 1 cJ));have hk7:=hk6.trans (KpP.row (zq w3 gF 6 (.slice (some ⟨gJ,0,none⟩) 1 cJ)) (Own.rowTyI hF6) (Or.inl rfl));have hB7:Below B w (w3.setCell ⟨gF,6,none⟩ (.slice (some ⟨gJ,0,none⟩) 1 cJ)):=hB6.grown (zq w3 gF 6 (.slice (some ⟨gJ,0,none⟩) 1 cJ)) (Nat.le_trans hB hk6.size) (fun k hk=>by injection hk with hk;omega);have bu7:=bu6.setOther (p:=⟨gF,6,none⟩) (by simp;omega) (.slice (some ⟨gJ,0,none⟩) 1 cJ);have br7:=br6.setOther (p:=⟨gF,6,none⟩) (by simp;omega) (.slice (some ⟨gJ,0,none⟩) 1 cJ);clear q0 q1 q2 qf ql d6 df bu6 br6 bs6 hF6 hgF6 ho3 hk6 hB6 K1 K2;generalize World.setCell _ _ _=W7 at *
 have q0:=bu7.cell 0 rfl;have q1:=bu7.cell 1 rfl;have q2:=bu7.cell 2 rfl;have qf:=fun i=>bu7.free i
 have ql:=bu7.lt;have z0:=br7.cell 0 rfl;have z1:=br7.cell 1 rfl;have z2:=br7.cell 2 rfl;have zf:=fun i=>br7.free i
 have zl:=br7.lt
 go_wp2_with fail
 obtain⟨bz,hgz⟩:=br7.store3 (.slice (some ⟨gC,0,none⟩) 1 cC) (.slice (some ⟨gF,0,none⟩) 1 cF) (.int .i64 0);have hoz:=ho7.keptTyI br7.rowTyI (by decide) hgz;have hFz:=hF7.keptTyI br7.rowTyI (by decide) hgz;have hkz:=KpP.new hk7 hgz (by omega);have hBz:=hB7.grown hgz (Nat.le_trans hB hk7.size) (fun k hk=>by injection hk with hk;omega);clear q0 q1 q2 qf ql z0 z1 z2 zf zl bu7 br7 ho7 hF7 hgz hk7 hB7;generalize World.setCell _ _ _=wz at *
 have y0:=bz.cell 0 rfl;have y1:=bz.cell 1 rfl;have y2:=bz.cell 2 rfl;have yf:=fun i=>bz.free i
 have yl:=bz.lt;clear yf yl;refine bodyPost_ret (v:= .tuple #[.agg #[.slice (some ⟨gC,0,none⟩) 1 cC,.slice (some ⟨gF,0,none⟩) 1 cF,.int .i64 0],.bool true]) (by simp[results,Tryz.results75,go_sem,y0,y1,y2]) rfl ?_;exact⟨gJ,cJ,rfl,hFz,hoz,hkz,hBz⟩
def ab8(w:World)(B gC cC gF cF gV cV:Nat)(w':World)(e:Ending):Prop:=∃gJ cJ:Nat,e = .returned (.tuple #[.agg #[.slice (some ⟨gC,0,none⟩) 1 cC,.slice (some ⟨gF,0,none⟩) 1 cF,.int .i64 0],.bool true])∧Own qz 7 B 42 w' (.slice (some ⟨gF,0,none⟩) 1 cF) [fnV [fdV] [inV1.1,inV2.1] (some ⟨gV,0,none⟩,cV) (some ⟨gJ,0,none⟩,cJ)]∧Own jP 10 B 59 w' (.slice (some ⟨gJ,0,none⟩) 2 cJ) [inV1,inV2]∧KpP w w'∧Below B w w'
theorem afZ(w:World)(B gC cC gF cF gV cV gI cI:Nat)(hB:B≤w.heap.size)(hF:Own qz 7 B 42 w (.slice (some ⟨gF,0,none⟩) 1 cF) [fnV [fdV] [inV1.1] (some ⟨gV,0,none⟩,cV) (some ⟨gI,0,none⟩,cI)])(hI:Own jP 10 B 59 w (.slice (some ⟨gI,0,none⟩) 1 cI) [inV1])(g c:Nat)(hc:3≤c)(hg:g<w.heap.size)(h0:w.cell? ⟨g,0,none⟩=some (.string ⟨#[45,49]⟩))(h1:w.cell? ⟨g,1,none⟩=some (.string ⟨#[114,101,116,117,114,110]⟩))(h2:w.cell? ⟨g,2,none⟩=some (.string ⟨#[45,49]⟩)) :
  Calls Tryz.prog 75 #[.agg #[.slice (some ⟨gC,0,none⟩) 1 cC,.slice (some ⟨gF,0,none⟩) 1 cF,.int .i64 0],.slice (some ⟨g,0,none⟩) 3 c] w fun e w'=>ab8 w B gC cC gF cF gV cV w' e:=by
 have HPI:Hid (∀W,Below w.heap.size w W→Calls Tryz.prog 146 #[.slice (some ⟨g,0,none⟩) 3 c] W fun e w'=>e = .returned (.tuple #[.agg #[.int .i64 13,.int .i64 0,.int .i64 (-1),.int .i64 0,.int .i64 0,.string ⟨#[]⟩,.string ⟨#[]⟩,.slice none 0 0,.int .i64 0,.int .i64 (-1)],.bool true])∧Below W.heap.size W w'):=fun W h=>aeS W g c hc (Nat.lt_of_lt_of_le hg h.size) (keptC h0 hg h) (keptC h1 hg h) (keptC h2 hg h)
 have hgF:=(Own.ltOf hF).2;have hgB:=(Own.ltOf hF).1;have hgI:=(Own.ltOf hI).2;have HW:Hid (∀W,Below w.heap.size w W→g<W.heap.size∧W.cell? ⟨g,0,none⟩=some (.string ⟨#[45,49]⟩)∧W.cell? ⟨g,1,none⟩=some (.string ⟨#[114,101,116,117,114,110]⟩)∧W.cell? ⟨g,2,none⟩=some (.string ⟨#[45,49]⟩)):=fun W h=>⟨Nat.lt_of_lt_of_le hg h.size,keptC h0 hg h,keptC h1 hg h,keptC h2 hg h⟩
 have hcI:(3:Int)≤(c:Int):=by omega
 clear h0 h1 h2 hg
 go_enter Tryz.func75,Tryz.ntmps75
 go_upto_region 1 with fail
 generalize hW:World.alloc (World.alloc _ _) _=W1 at *
 have hb1:Below w.heap.size w W1:=by rw[←hW];exact(by repeat(first|assumption|exact v9r|apply zc|apply zd|apply zg|apply ze|apply zi))
 have bu:Box W1 w.heap.size [.slice (some ⟨gC,0,none⟩) 1 cC,.slice (some ⟨gF,0,none⟩) 1 cF,.int .i64 0] 32:=by rw[←hW];exact(Box.new _ _ _).alloc _
 have br:Box W1 (w.heap.size+1) [.slice none 0 0,.slice none 0 0,.int .i64 0] 32:=by rw[←hW];exact Box.at (w:=w.alloc _) (by simp)
 clear hW;obtain⟨hg,h0,h1,h2⟩:=HW.out _ hb1;have q0:=bu.cell 0 rfl;have q1:=bu.cell 1 rfl;have q2:=bu.cell 2 rfl;have qf:=fun i=>bu.free i
 have ql:=bu.lt
 go_wp2_with fail
 refine(HPI.out _ hb1).mono ?_;rintro e W2 ⟨rfl,hb12⟩;have hb2:=za hb1 hb12;have bu2:=bu.mono hb12;have br2:=br.mono hb12;clear q0 q1 q2 qf ql hg h0 h1 h2 hb1 bu br hb12
 go_upto_region 13 with fail
 generalize hW:World.alloc _ _=W3 at *
 have hb3:Below w.heap.size w W3:=by rw[←hW];exact zc hb2
 have bu3:Box W3 w.heap.size [.slice (some ⟨gC,0,none⟩) 1 cC,.slice (some ⟨gF,0,none⟩) 1 cF,.int .i64 0] 32:=by rw[←hW];exact bu2.alloc _
 have br3:Box W3 (w.heap.size+1) [.slice none 0 0,.slice none 0 0,.int .i64 0] 32:=by rw[←hW];exact br2.alloc _
 have bs3:Box W3 W2.heap.size [.int .i64 13,.int .i64 0,.int .i64 (-1),.int .i64 0,.int .i64 0,.string ⟨#[]⟩,.string ⟨#[]⟩,.slice none 0 0,.int .i64 0,.int .i64 (-1)] 59:=by rw[←hW];exact Box.new _ _ _
 have hb7:w.heap.size≤W2.heap.size:=hb2.size;generalize hb7e:W2.heap.size=b7 at *
 clear hW bu2 br2 hb2 hb7e;have hb4:=hb3.drew;have bu4:=bu3.drew;have br4:=br3.drew;have bs4:=bs3.drew;clear hb3 bu3 br3 bs3;generalize hW:W3.drew=W4 at *
 have hF4:=hF.mono hb4;have hI4:=hI.mono hb4;refine ji (S:=fun w'=>w'.cell? ⟨w.heap.size,0,none⟩=some (.slice (some ⟨gC,0,none⟩) 1 cC)∧w'.cell? ⟨w.heap.size,1,none⟩=some (.slice (some ⟨gF,0,none⟩) 1 cF)∧w'.cell? ⟨w.heap.size,2,none⟩=some (.int .i64 0)∧w'.cell? ⟨gF,6,none⟩=some (.slice (some ⟨gI,0,none⟩) 1 cI)∧w'.cell? ⟨b7,0,none⟩=some (.int .i64 13)∧w'.cell? ⟨b7,1,none⟩=some (.int .i64 0)∧w'.cell? ⟨b7,2,none⟩=some (.int .i64 (-1))∧w'.cell? ⟨b7,3,none⟩=some (.int .i64 0)∧w'.cell? ⟨b7,4,none⟩=some (.int .i64 0)∧w'.cell? ⟨b7,5,none⟩=some (.string ⟨#[]⟩)∧w'.cell? ⟨b7,6,none⟩=some (.string ⟨#[]⟩)∧w'.cell? ⟨b7,7,none⟩=some (.slice none 0 0)∧w'.cell? ⟨b7,8,none⟩=some (.int .i64 0)∧w'.cell? ⟨b7,9,none⟩=some (.int .i64 (-1))) 12 (by kernel_rfl) (by rw[hW];exact And.intro (bu4.cell 0 rfl) (And.intro (bu4.cell 1 rfl) (And.intro (bu4.cell 2 rfl) (And.intro (zK zV hF4 (j:=6) (u:= .slice (some ⟨gI,0,none⟩) 1 cI) rfl) (And.intro (bs4.cell 0 rfl) (And.intro (bs4.cell 1 rfl) (And.intro (bs4.cell 2 rfl) (And.intro (bs4.cell 3 rfl) (And.intro (bs4.cell 4 rfl) (And.intro (bs4.cell 5 rfl) (And.intro (bs4.cell 6 rfl) (And.intro (bs4.cell 7 rfl) (And.intro (bs4.cell 8 rfl) (bs4.cell 9 rfl)))))))))))))) (by kernel_rfl) ?_;rw[hW];clear hW;have hb45:Below W4.heap.size W4 (W4.alloc (.cells #[.int .i64 13,.int .i64 0,.int .i64 (-1),.int .i64 0,.int .i64 0,.string ⟨#[]⟩,.string ⟨#[]⟩,.slice none 0 0,.int .i64 0,.int .i64 (-1)] 59)):=zc (v9r);have bn5:Box (W4.alloc (.cells #[.int .i64 13,.int .i64 0,.int .i64 (-1),.int .i64 0,.int .i64 0,.string ⟨#[]⟩,.string ⟨#[]⟩,.slice none 0 0,.int .i64 0,.int .i64 (-1)] 59)) W4.heap.size [.int .i64 13,.int .i64 0,.int .i64 (-1),.int .i64 0,.int .i64 0,.string ⟨#[]⟩,.string ⟨#[]⟩,.slice none 0 0,.int .i64 0,.int .i64 (-1)] 59:=Box.new _ _ _;have bu5:=bu4.mono hb45;have br5:=br4.mono hb45;have bs5:=bs4.mono hb45;have hF5:=hF4.mono hb45;have hI5:=hI4.mono hb45;have hb5:=za hb4 hb45;have K1:=v9h (And.intro (bu5.cell 0 rfl) (And.intro (bu5.cell 1 rfl) (And.intro (bu5.cell 2 rfl) (And.intro (zK zV hF5 (j:=6) (u:= .slice (some ⟨gI,0,none⟩) 1 cI) rfl) (And.intro (bs5.cell 0 rfl) (And.intro (bs5.cell 1 rfl) (And.intro (bs5.cell 2 rfl) (And.intro (bs5.cell 3 rfl) (And.intro (bs5.cell 4 rfl) (And.intro (bs5.cell 5 rfl) (And.intro (bs5.cell 6 rfl) (And.intro (bs5.cell 7 rfl) (And.intro (bs5.cell 8 rfl) (bs5.cell 9 rfl))))))))))))));have hsome:Nonempty (Held (fun w':World=>w'.cell? ⟨w.heap.size,0,none⟩=some (.slice (some ⟨gC,0,none⟩) 1 cC)∧w'.cell? ⟨w.heap.size,1,none⟩=some (.slice (some ⟨gF,0,none⟩) 1 cF)∧w'.cell? ⟨w.heap.size,2,none⟩=some (.int .i64 0)∧w'.cell? ⟨gF,6,none⟩=some (.slice (some ⟨gI,0,none⟩) 1 cI)∧w'.cell? ⟨b7,0,none⟩=some (.int .i64 13)∧w'.cell? ⟨b7,1,none⟩=some (.int .i64 0)∧w'.cell? ⟨b7,2,none⟩=some (.int .i64 (-1))∧w'.cell? ⟨b7,3,none⟩=some (.int .i64 0)∧w'.cell? ⟨b7,4,none⟩=some (.int .i64 0)∧w'.cell? ⟨b7,5,none⟩=some (.string ⟨#[]⟩)∧w'.cell? ⟨b7,6,none⟩=some (.string ⟨#[]⟩)∧w'.cell? ⟨b7,7,none⟩=some (.slice none 0 0)∧w'.cell? ⟨b7,8,none⟩=some (.int .i64 0)∧w'.cell? ⟨b7,9,none⟩=some (.int .i64 (-1)))):=⟨⟨W4,And.intro (bu4.cell 0 rfl) (And.intro (bu4.cell 1 rfl) (And.intro (bu4.cell 2 rfl) (And.intro (zK zV hF4 (j:=6) (u:= .slice (some ⟨gI,0,none⟩) 1 cI) rfl) (And.intro (bs4.cell 0 rfl) (And.intro (bs4.cell 1 rfl) (And.intro (bs4.cell 2 rfl) (And.intro (bs4.cell 3 rfl) (And.intro (bs4.cell 4 rfl) (And.intro (bs4.cell 5 rfl) (And.intro (bs4.cell 6 rfl) (And.intro (bs4.cell 7 rfl) (And.intro (bs4.cell 8 rfl) (bs4.cell 9 rfl)))))))))))))⟩⟩
 clear bu4 br4 bs4 hF4 hb45 hI4;refine RC.chunk (f:=2) [0,1,2,3,4,5,6,7,8,9] (by kernel_rfl) ?_;have hh2:∀x:Held (fun w':World=>w'.cell? ⟨w.heap.size,0,none⟩=some (.slice (some ⟨gC,0,none⟩) 1 cC)∧w'.cell? ⟨w.heap.size,1,none⟩=some (.slice (some ⟨gF,0,none⟩) 1 cF)∧w'.cell? ⟨w.heap.size,2,none⟩=some (.int .i64 0)∧w'.cell? ⟨gF,6,none⟩=some (.slice (some ⟨gI,0,none⟩) 1 cI)∧w'.cell? ⟨b7,0,none⟩=some (.int .i64 13)∧w'.cell? ⟨b7,1,none⟩=some (.int .i64 0)∧w'.cell? ⟨b7,2,none⟩=some (.int .i64 (-1))∧w'.cell? ⟨b7,3,none⟩=some (.int .i64 0)∧w'.cell? ⟨b7,4,none⟩=some (.int .i64 0)∧w'.cell? ⟨b7,5,none⟩=some (.string ⟨#[]⟩)∧w'.cell? ⟨b7,6,none⟩=some (.string ⟨#[]⟩)∧w'.cell? ⟨b7,7,none⟩=some (.slice none 0 0)∧w'.cell? ⟨b7,8,none⟩=some (.int .i64 0)∧w'.cell? ⟨b7,9,none⟩=some (.int .i64 (-1))),x.W.cell? ⟨w.heap.size,0,none⟩=some (.slice (some ⟨gC,0,none⟩) 1 cC)∧x.W.cell? ⟨w.heap.size,1,none⟩=some (.slice (some ⟨gF,0,none⟩) 1 cF)∧x.W.cell? ⟨w.heap.size,2,none⟩=some (.int .i64 0)∧x.W.cell? ⟨gF,6,none⟩=some (.slice (some ⟨gI,0,none⟩) 1 cI)∧x.W.cell? ⟨b7,0,none⟩=some (.int .i64 13)∧x.W.cell? ⟨b7,1,none⟩=some (.int .i64 0)∧x.W.cell? ⟨b7,2,none⟩=some (.int .i64 (-1))∧x.W.cell? ⟨b7,3,none⟩=some (.int .i64 0)∧x.W.cell? ⟨b7,4,none⟩=some (.int .i64 0)∧x.W.cell? ⟨b7,5,none⟩=some (.string ⟨#[]⟩)∧x.W.cell? ⟨b7,6,none⟩=some (.string ⟨#[]⟩)∧x.W.cell? ⟨b7,7,none⟩=some (.slice none 0 0)∧x.W.cell? ⟨b7,8,none⟩=some (.int .i64 0)∧x.W.cell? ⟨b7,9,none⟩=some (.int .i64 (-1)):=fun x=>x.h
 have hq0:=fun x=>(hh2 x).1
 have hq1:=fun x=>(hh2 x).2.1
 have hq2:=fun x=>(hh2 x).2.2.1
 have hq3:=fun x=>(hh2 x).2.2.2.1
 have hq4:=fun x=>(hh2 x).2.2.2.2.1
 have hq5:=fun x=>(hh2 x).2.2.2.2.2.1
 have hq6:=fun x=>(hh2 x).2.2.2.2.2.2.1
 have hq7:=fun x=>(hh2 x).2.2.2.2.2.2.2.1
 have hq8:=fun x=>(hh2 x).2.2.2.2.2.2.2.2.1
 have hq9:=fun x=>(hh2 x).2.2.2.2.2.2.2.2.2.1
 have hq10:=fun x=>(hh2 x).2.2.2.2.2.2.2.2.2.2.1
 have hq11:=fun x=>(hh2 x).2.2.2.2.2.2.2.2.2.2.2.1
 have hq12:=fun x=>(hh2 x).2.2.2.2.2.2.2.2.2.2.2.2.1
 have hq13:=fun x=>(hh2 x).2.2.2.2.2.2.2.2.2.2.2.2.2
 clear hh2
 ((simp only[zo,List.filterMap,List.getElem?_toArray,List.getElem?_cons_zero,List.getElem?_cons_succ]);(repeat(go_big_quiet_step (fail)));refine wpQuiet_nil ?_)
 refine RC.single 10 rfl (by kernel_rfl) (by omega) ?_;intro K hK;clear hq0 hq1 hq2 hq3 hq4 hq5 hq6 hq7 hq8 hq9 hq10 hq11 hq12 hq13
 go_wp2_with fail
 refine hK _ _ K1.out ?_;clear hK;generalize World.alloc _ _=W5 at *
 refine RC.single 11 rfl (by kernel_rfl) (by omega) ?_;intro K hK;refine zF afb xO rfl (.tmp 97) (.tmp 99) rfl B _ _ rfl hI5 inV2 _ _ rfl (fun j u hj=>bn5.cell j hj) (by simp[maxLen]) (by simp) (Nat.le_trans hB hb5.size) ?_;intro v3 w3 ho3 hc3 hg3;have hg4:World.grownBy W5 w3 (some gI):=hg3;have hr4:qs W5 (some gI) 59:=Own.rowTyI hI5;have hk6:=(KpP.below hb5).trans (KpP.row hg4 hr4 (Or.inr rfl));have hB6:=(hb5.mono hB).trans hc3;obtain⟨gJ,cJ,rfl⟩:=ho3.someOf (by simp);have bu6:=bu5.keptP (KpP.row hg4 hr4 (Or.inr rfl)) (by decide) (by decide);have br6:=br5.keptP (KpP.row hg4 hr4 (Or.inr rfl)) (by decide) (by decide);have bs6:=bs5.grown hg4 (by intro hh;injection hh with hh;omega);have hF6:=hF5.keptTyI hr4 (by decide) hg4;have hgF6:=Nat.lt_of_lt_of_le hgF hk6.size;have K2:=v9h (And.intro (bu6.cell 0 rfl) (And.intro (bu6.cell 1 rfl) (And.intro (bu6.cell 2 rfl) (And.intro (zK zV hF6 (j:=6) (u:= .slice (some ⟨gI,0,none⟩) 1 cI) rfl) (And.intro (bs6.cell 0 rfl) (And.intro (bs6.cell 1 rfl) (And.intro (bs6.cell 2 rfl) (And.intro (bs6.cell 3 rfl) (And.intro (bs6.cell 4 rfl) (And.intro (bs6.cell 5 rfl) (And.intro (bs6.cell 6 rfl) (And.intro (bs6.cell 7 rfl) (And.intro (bs6.cell 8 rfl) (bs6.cell 9 rfl))))))))))))));clear bu5 br5 bs5 hF5 bn5 hg3 hc3 hg4 hr4 hb5 hsome hI5
 go_wp2_with fail
 refine hK _ _ K2.out ?_;clear hK;refine RC.tail (by kernel_rfl) ?_;simp only[List.drop_succ_cons,List.drop_zero];have q0:=bu6.cell 0 rfl;have q1:=bu6.cell 1 rfl;have q2:=bu6.cell 2 rfl;have qf:=fun i=>bu6.free i
 have ql:=bu6.lt;have d6:=zK zV hF6 (j:=6) (u:= .slice (some ⟨gI,0,none⟩) 1 cI) rfl;have df:=fun i=>xe hF6 i
 go_upto_region 14 with fail
 have hF7:=xP zV hF6 (j:=6) (by omega) (.slice (some ⟨gJ,0,none⟩) 2 cJ) (fnV [fdV] [inV1.1,inV2.1] (some ⟨gV,0,none⟩,cV) (some ⟨gJ,0,none⟩,cJ)) rfl;have ho7:=ho3.keptTyI (Own.rowTyI hF6) (by decide) (zq w3 gF 6 (.slice (some ⟨gJ,0,none⟩) 2 cJ));have hk7:=hk6.trans (KpP.row (zq w3 gF 6 (.slice (some ⟨gJ,0,none⟩) 2 cJ)) (Own.rowTyI hF6) (Or.inl rfl));have hB7:Below B w (w3.setCell ⟨gF,6,none⟩ (.slice (some ⟨gJ,0,none⟩) 2 cJ)):=hB6.grown (zq w3 gF 6 (.slice (some ⟨gJ,0,none⟩) 2 cJ)) (Nat.le_trans hB hk6.size) (fun k hk=>by injection hk with hk;omega);have bu7:=bu6.setOther (p:=⟨gF,6,none⟩) (by simp;omega) (.slice (some ⟨gJ,0,none⟩) 2 cJ);have br7:=br6.setOther (p:=⟨gF,6,none⟩) (by simp;omega) (.slice (some ⟨gJ,0,none⟩) 2 cJ);clear q0 q1 q2 qf ql d6 df bu6 br6 bs6 hF6 hgF6 ho3 hk6 hB6 K1 K2;generalize World.setCell _ _ _=W7 at *
 have q0:=bu7.cell 0 rfl;have q1:=bu7.cell 1 rfl;have q2:=bu7.cell 2 rfl;have qf:=fun i=>bu7.free i
 have ql:=bu7.lt;have z0:=br7.cell 0 rfl;have z1:=br7.cell 1 rfl;have z2:=br7.cell 2 rfl;have zf:=fun i=>br7.free i
 have zl:=br7.lt
 go_wp2_with fail
 obtain⟨bz,hgz⟩:=br7.store3 (.slice (some ⟨gC,0,none⟩) 1 cC) (.slice (some ⟨gF,0,none⟩) 1 cF) (.int .i64 0);have hoz:=ho7.keptTyI br7.rowTyI (by decide) hgz;have hFz:=hF7.keptTyI br7.rowTyI (by decide) hgz;have hkz:=KpP.new hk7 hgz (by omega);have hBz:=hB7.grown hgz (Nat.le_trans hB hk7.size) (fun k hk=>by injection hk with hk;omega);clear q0 q1 q2 qf ql z0 z1 z2 zf zl bu7 br7 ho7 hF7 hgz hk7 hB7;generalize World.setCell _ _ _=wz at *
 have y0:=bz.cell 0 rfl;have y1:=bz.cell 1 rfl;have y2:=bz.cell 2 rfl;have yf:=fun i=>bz.free i
 have yl:=bz.lt;clear yf yl;refine bodyPost_ret (v:= .tuple #[.agg #[.slice (some ⟨gC,0,none⟩) 1 cC,.slice (some ⟨gF,0,none⟩) 1 cF,.int .i64 0],.bool true]) (by simp[results,Tryz.results75,go_sem,y0,y1,y2]) rfl ?_;exact⟨gJ,cJ,rfl,hFz,hoz,hkz,hBz⟩
end Go.Proofs.YtmhdambkchlilaaGreatDoor
