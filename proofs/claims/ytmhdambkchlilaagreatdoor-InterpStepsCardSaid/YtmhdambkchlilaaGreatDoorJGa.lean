/- A library of plain words for walks: later worlds, regions whose order is open, slices that read as lists. It holds no statement about the program. From the reading of an argument to its layout: combinators, one for each kind of type. From the reading of an argument to its layout, with the form's own reach: combinators, one for each kind of type. Maps that the call itself makes, as functions from keys to optional values. It holds no statement about the program. Maps that the call itself makes, as functions from keys to optional values, with the exact number of entries, and with elements that are read by any reading. It holds no statement about the program. Maps keyed by strings. It holds no statement about the program. Regions that draw their order and hold calls that make memory and hand back what lies in it: quiet operations are taken first, a call when nothing else is ready. It holds no statement about the program. Blocks of the call's own whose cells are known. It holds no statement about the program. Regions that draw their order, once more (XReg): here each operation leaves what lay in the heap when the region began, and may write what the region itself has made. It holds no statement about the program. Regions that do not draw, walked by the quick quiet steps: each operation reads or calls a function that hands back one value. Rows whose elements hold slices themselves: appending whole slices, boxes beside rows, the layout out of raw cells. It holds no statement about the program. A drawn region that goes on in a world of its own making (plain). A drawn region whose writes may hit what was made earlier in the call (plain). Regions that draw their order, once more (XReg, XRegZ): here each operation leaves a world of a class that the proof names. It holds no statement about the program. Drawn regions: nil checks among the quiet operations (a chunk as in Reg, RegZ). It holds no statement about the program. Drawn regions: nil checks among the quiet operations (RegN), in worlds of a class (RegC). It holds no statement about the program. -/
import Derived.WalkKit
import Derived.WalkSpells
import Derived.WalkLawsBesides
import Derived.Deep.QuietTactic
import Derived.BigQuiet
import Derived.StillTail
import Derived.Lib.Hide
import Derived.Deep.AppendLies
import Derived.Maps.AppendAt
import Derived.Deep.DeepMust
import Derived.ProofKit
import Derived.Deep.Slices
import Derived.Deep.Fields
import Derived.Maps.OwnOps
import Derived.Maps.OwnSet
import Derived.Maps.Views
import Derived.Deep.Strs
import Derived.Deep.DeepCutAuto
import Derived.Deep.CutBlock
import Derived.Laws.OwnMore
namespace Go.Proofs.YtmhdambkchlilaaGreatDoor
open Go.RowKit
open Go.RowKit Go.ChangeShapes Go.WideShapes Go.Deep
set_option linter.unusedVariables false
structure zk(w:World) where
 W:World
 h:Below w.heap.size w W
theorem za{w w1 w2:World}(h:Below w.heap.size w w1)(k:Below w1.heap.size w1 w2):Below w.heap.size w w2:=h.trans (k.mono h.size)
theorem aaR{B:Nat}{a w:World}(h:Below B a w)(n:Nat):Below B a (w.drewN n):=⟨h.os,h.tape,h.output,h.size,h.block⟩
theorem zc{w W:World}{o:Obj}(h:Below w.heap.size w W):Below w.heap.size w (W.alloc o):=h.alloc h.size o
theorem zd{w W:World}(h:Below w.heap.size w W):Below w.heap.size w W.drew:=h.drew
theorem zg{w W:World}{n:Nat}(h:Below w.heap.size w W):Below w.heap.size w (W.drewN n):=aaR h n
theorem ze{w W:World}{x:zk W}(h:Below w.heap.size w W):Below w.heap.size w x.W:=za h x.h
theorem zi{w W W':World}(k:Below W.heap.size W W')(h:Below w.heap.size w W):Below w.heap.size w W':=za h k
def zk.here(w:World):zk w:=⟨w,Below.refl _ _⟩
instance zk.some (w:World):Nonempty (zk w):=⟨zk.here w⟩
def zk.next{w:World}(x:zk w){w':World}(h:Below x.W.heap.size x.W w'):zk w:=⟨w',za x.h h⟩
section
variable {w:World} (x:zk w)
@[go_sem] theorem zk.cell{b o:Nat}{s:Option Nat}(h:b<w.heap.size):x.W.cell? ⟨b,o,s⟩=w.cell? ⟨b,o,s⟩:=x.h.cell (p:=⟨b,o,s⟩) h
@[go_sem] theorem zk.frozen{b o:Nat}{s:Option Nat}(h:b<w.heap.size):x.W.frozen? ⟨b,o,s⟩=w.frozen? ⟨b,o,s⟩:=x.h.frozen (p:=⟨b,o,s⟩) h
end
theorem Calls.later{P:Program}{f:FuncId}{args:Array Value}{w:World}{x:zk w}{v:Value}
  (h:Calls P f args x.W fun e w'=>e = .returned v∧Below x.W.heap.size x.W w'):Calls P f args x.W fun e w''=>e = .returned v∧∃y:zk w,w''=y.W:=
 h.mono fun _ _ ⟨he,hb⟩=>⟨he,x.next hb,rfl⟩
theorem Calls.later_same{P:Program}{f:FuncId}{args:Array Value}{w:World}{x:zk w}{v:Value}
  (h:Calls P f args x.W fun e w'=>e = .returned v∧x.W=w'):Calls P f args x.W fun e w''=>e = .returned v∧∃y:zk w,w''=y.W:=
 h.mono fun _ _ ⟨he,hb⟩=>⟨he,x,hb.symm⟩
theorem zm{P:Program}{id:Nat}{Q:Exit→Act→World→Prop}{a:Act}{w:World}{l:List Oper}(hm:P.follows .mixedOrders=true)(hB:Region.lexB .any l.toArray=true)
  (h:wpQuiet P l.toArray (fun w'=>∃x:zk w,w'=x.W) (fun a'=>∀w',(∃x:zk w,w'=x.W)→Q .normal a' w') l a):(Code.region id l.toArray true).wp P Q a w:=
 wp_region_quiet (C:=fun w'=>∃x:zk w,w'=x.W) hm hB ⟨⟨w.drew,(Below.refl _ _).drew⟩,rfl⟩ (by simpa using h)
section
variable {P:Program} {ops:Array Oper} {md:Region.Mode} {C:World→Prop}
end
structure Lay(α:Type) where
 size:Nat
 rep:World→α→List Value→Prop
 len:∀{w x vs},rep w x vs→vs.length=size
 mono:∀{w w' x vs},Below w.heap.size w w'→rep w x vs→rep w' x vs
def Lay.plain{α:Type}(size:Nat)(cells:α→List Value)(h:∀x,(cells x).length=size):Lay α:={ size:=size,rep:=fun _ x vs=>vs=cells x,len:=fun e=>by rw[e];exact h _,mono:=fun _ e=>e}
def Lay.int:Lay Int:=Lay.plain 1 (fun x=>[.int .i64 x]) fun _=>rfl
def Lay.u64:Lay Int:=Lay.plain 1 (fun x=>[.int .u64 x]) fun _=>rfl
def Lay.bool:Lay Bool:=Lay.plain 1 (fun x=>[.bool x]) fun _=>rfl
def Lay.str:Lay ByteArray:=Lay.plain 1 (fun x=>[.string x]) fun _=>rfl
def Lay.and{α β:Type}(L:Lay α)(M:Lay β):Lay (α×β):=
 {size:=L.size+M.size,rep:=fun w x vs=>∃us ts,vs=us++ts∧L.rep w x.1 us∧M.rep w x.2 ts,
  len:=fun⟨us,ts,e,h1,h2⟩=>by rw[e,List.length_append,L.len h1,M.len h2],
  mono:=fun hb ⟨us,ts,e,h1,h2⟩=>⟨us,ts,e,L.mono hb h1,M.mono hb h2⟩}
def Sl{α:Type}(L:Lay α)(w:World)(A:Option Addr)(l:List α):Prop:=
 ∀i x,l[i]? = some x→∃b o vs,A=some ⟨b,o,none⟩∧b<w.heap.size∧L.rep w x vs∧∀j v,vs[j]? = some v→w.cell? ⟨b,o+i*L.size+j,none⟩=some v
section
variable {α:Type} {L:Lay α} {w w':World} {A:Option Addr} {l:List α}
theorem Sl.nil:Sl L w A []:=fun i x h=>by simp at h
theorem Sl.mono(h:Sl L w A l)(hb:Below w.heap.size w w'):Sl L w' A l:=fun i x hx=>by
 obtain⟨b,o,vs,e,hlt,hr,hc⟩:=h i x hx;exact⟨b,o,vs,e,Nat.lt_of_lt_of_le hlt hb.size,L.mono hb hr,fun j v hj=>by rw[hb.cell (p:=⟨b,_,none⟩) hlt];exact hc j v hj⟩
theorem Sl.later(h:Sl L w A l)(x:zk w):Sl L x.W A l:=h.mono x.h
end
def Lay.slice{α:Type}(L:Lay α):Lay (List α):=
 {size:=1,rep:=fun w l vs=>∃A c,vs=[.slice A l.length c]∧l.length≤c∧Sl L w A l,
  len:=fun⟨A,c,e,_,_⟩=>by rw[e];rfl,
  mono:=fun hb ⟨A,c,e,hc,h⟩=>⟨A,c,e,hc,h.mono hb⟩}
section
variable {w:World} {A:Option Addr}
theorem Sl.int_at{l:List Int}(h:Sl Lay.int w A l){i:Nat}(hi:i<l.length):∃b o,A=some ⟨b,o,none⟩∧b<w.heap.size∧w.cell? ⟨b,o+i,none⟩=some (.int .i64 l[i]):=by
 obtain⟨b,o,vs,e,hlt,hr,hc⟩:=h i l[i] (List.getElem?_eq_getElem hi);simp only[Lay.int,Lay.plain] at hr hc;subst hr;exact⟨b,o,e,hlt,by have:=hc 0 _ rfl;rwa[Nat.mul_one,Nat.add_zero] at this⟩
theorem Sl.str_at{l:List ByteArray}(h:Sl Lay.str w A l){i:Nat}(hi:i<l.length):∃b o,A=some ⟨b,o,none⟩∧b<w.heap.size∧w.cell? ⟨b,o+i,none⟩=some (.string l[i]):=by
 obtain⟨b,o,vs,e,hlt,hr,hc⟩:=h i l[i] (List.getElem?_eq_getElem hi);simp only[Lay.str,Lay.plain] at hr hc;subst hr;exact⟨b,o,e,hlt,by have:=hc 0 _ rfl;rwa[Nat.mul_one,Nat.add_zero] at this⟩
end
theorem Sl.of_own{α:Type}{L:Lay α}{cells:α→List Value}{w:World}{base:Nat}{e:TypeId}{A:Option Addr}{n c:Nat}{xs:List Value}{l:List α}
  (hL:∀x,L.rep w x (cells x)) (h:w.ownsRow base e L.size (.slice A n c) n xs) (hxs:xs=l.flatMap cells) (hn:l.length=n):Sl L w A l:=by
 intro i x hx;have hi:i<l.length:=(List.getElem?_eq_some_iff.1 hx).1;obtain⟨g,cap,hv,_,hlt⟩:=h.form (by omega);have hA:A=some ⟨g,0,none⟩:=by injection hv
 subst hA;refine⟨g,0,cells x,rfl,hlt,hL x,fun j v hj=>?_⟩;have hcell:=h.cells (g:=g) rfl (i*L.size+j) v
 have:(⟨g,0+i*L.size+j,none⟩:Addr)=(⟨g,0,none⟩:Addr).add (i*L.size+j):=by
  unfold Addr.add
  split
  ·rename_i h0;rw[Nat.add_assoc,h0]
  ·simp
 rw[this]
 apply hcell
 rw[hxs];clear hcell this hxs h hv hn
 induction l generalizing i with
 |nil=>simp at hx
 |cons y r ih=>
  cases i with
  |zero=>
   simp only[List.getElem?_cons_zero,Option.some.injEq] at hx;subst hx;simp only[Nat.zero_mul,Nat.zero_add,List.flatMap_cons];rw[List.getElem?_append_left (List.getElem?_eq_some_iff.1 hj).1];exact hj
  |succ i=>
   simp only[List.getElem?_cons_succ] at hx;have hy:(cells y).length=L.size:=L.len (hL y);rw[List.flatMap_cons,List.getElem?_append_right (by rw[hy,Nat.succ_mul];omega),hy];have e2:(i+1)*L.size+j-L.size=i*L.size+j:=by rw[Nat.succ_mul];omega
   rw[e2];exact ih i hx (by simpa using hi)
structure qc(P:Program)(t e:TypeId)(size bytes:Nat)(z:Value):Prop where
 under:P.underlying t=some (.slice e)
 info:(P.info? e).map (fun i=>(i.zero,i.size,i.bytes))=some (some z,size,bytes)
 zero:z.cells.size=size
 pos:0<size
def Own{α:Type}(cells:α→List Value)(size base:Nat)(e:TypeId)(w:World)(v:Value)(l:List α):Prop:=w.ownsRow base e size v l.length (l.flatMap cells)
structure yk{α:Type}(cells:α→List Value)(size:Nat):Prop where
 len:∀x,(cells x).length=size
 one:∀x,∀u∈cells x,u.oneCell'=true
section
variable {α:Type} {cells:α→List Value} {size base:Nat} {e:TypeId} {w w':World} {v:Value} {l:List α}
theorem Own.nil:Own cells size base e w (.slice none 0 0) []:=World.ownsRow_nil w base e size
theorem Own.mono(h:Own cells size base e w v l)(hb:Below w.heap.size w w'):Own cells size base e w' v l:=
 World.ownsRow.kept h (row:=none) ⟨hb.os,hb.tape,hb.output,hb.size,fun k hk _=>hb.block k hk⟩ (by cases v.ownBlock<;>simp)
theorem Own.alloc(h:Own cells size base e w v l)(o:Obj):Own cells size base e (w.alloc o) v l:=h.mono (zc (Below.refl _ _))
theorem Own.later(h:Own cells size base e w v l)(x:zk w):Own cells size base e x.W v l:=h.mono x.h
theorem Own.lit(w:World)(cs:Array Value)(l:List α)(hb:base≤w.heap.size)(hm:l.length≤maxLen)(hs:cs.size=l.length*size)(hc:cs.toList=l.flatMap cells) :
  Own cells size base e (w.alloc (.cells cs e)) (.slice (some ⟨w.heap.size,0,none⟩) l.length l.length) l:=by
 unfold Own;rw[←hc];exact World.ownsRow_lit w cs l.length hb hm hs
theorem Own.sl{L:Lay α}(h:Own cells size base e w v l)(hs:L.size=size)(hL:∀x,L.rep w x (cells x)):∃A c,v = .slice A l.length c∧l.length≤c∧Sl L w A l:=by
 subst hs
 rcases h.2 with⟨rfl,h0⟩|⟨g,cap,cur,rfl,_,_,hc,_⟩
 ·have:l=[]:=List.eq_nil_of_length_eq_zero h0
  subst this;exact⟨none,0,rfl,Nat.le_refl _,Sl.nil⟩
 ·exact⟨_,cap,rfl,hc,Sl.of_own hL h rfl rfl⟩
theorem Own.le(h:Own cells size base e w v l):l.length≤maxLen:=by
 rcases h.2 with⟨_,h0⟩|⟨_,_,_,_,_,_,h1,h2,_⟩
 ·omega
 ·omega
end
theorem ajr{P:Program}{α:Type}{cells:α→List Value}{t e:TypeId}{size bytes:Nat}{z:Value}(T:qc P t e size bytes z)(hc:yk cells size)
  {ops:Array Oper} {rest:List Oper} {o:Oper} {a:Act} {Q:Exit→Act→World→Prop} {w:World} (hgd:o.guard=none) (s x:Operand)
  (ho:o.op = .call { callee:= .builtin .append,args:=#[s,x],argTypes:=#[t,t]}) (base:Nat) (v:Value) (l:List α) (hs:a.eval s=v) (hown:Own cells size base e w v l)
  (y:α) (g c:Nat) (hx:a.eval x = .slice (some ⟨g,0,none⟩) 1 c) (hy:∀j u,(cells y)[j]? = some u→w.cell? ⟨g,j,none⟩=some u)
  (h63:l.length+1≤maxLen) (hbytes:(l.length+1)*bytes≤140737488355328) (hbase:base≤w.heap.size)
  (h:∀v' w',Own cells size base e w' v' (l++[y])→Below base w w'→wpList P ops Q rest (a.put o.dst v') w'):wpList P ops Q (o::rest) a w:=by
 obtain⟨i,hi,hz,hsz,hby⟩:=info_parts T.info
 refine wpList_append_own_at w hgd s x t ho base e i z size bytes T.under hi hz hsz hby T.zero T.pos v l.length (l.flatMap cells) hs hown ⟨g,0,none⟩ 1 c (cells y) hx
  (by rw[hc.len,Nat.one_mul]) (fun j u hu=>by
   have:=hy j u hu;unfold Addr.add
   split
   ·rename_i h0;rw[h0] at this;exact this
   ·simpa using this) (hc.one y) h63 hbytes hbase ?_
 intro v' w' hown' hg _ _;refine h v' w' ?_ ((Below.refl _ _).grown hg hbase fun k hk=>(hown.lt k hk).1);unfold Own;rw[List.flatMap_append,List.length_append,List.flatMap_singleton];exact hown'
def yh(x:Int):List Value:=[.int .i64 x]
theorem qa:yk yh 1:=⟨fun _=>rfl,fun _ u hu=>by simp[yh] at hu;subst hu;rfl⟩
theorem zY(w:World)(u:Value)(t:TypeId):∀j v,[u][j]? = some v→(w.alloc (.cells #[u] t)).cell? ⟨w.heap.size,j,none⟩=some v:=by
 intro j v hj
 match j,hj with
 | 0,hj=>simp at hj;subst hj;simp
def Lay.word:Lay Nat:=Lay.plain 1 (fun x=>[.int .u64 (x:Int)]) fun _=>rfl
theorem qc.make{P:Program}{t e:TypeId}{size bytes:Nat}{z:Value}(T:qc P t e size bytes z)(kl kc:IntKind)(n:Nat)(hb:bytes*n≤281474976710656)(h63:n≤9223372036854775807)(w:World) :
  (Instr.makeSlice t (.int kl (n:Int)) (.int kc (n:Int))).run P w = .ok (.slice (some ⟨w.heap.size,0,none⟩) n n) (w.alloc (.cells (madeCells z.cells (n*size)) e)):=by
 obtain⟨i,hi,hz,hsz,hby⟩:=info_parts T.info
 have hb':(i.bytes:Int)*(n:Int)≤281474976710656:=by
  rw[hby];have h:((bytes*n:Nat):Int)≤281474976710656:=by omega
  rwa[Int.natCast_mul] at h
 have hr:=run_make (P:=P) w t e i z T.under hi hz kl kc n n (by omega) (by omega) hb' (by omega);simp only[Int.toNat_natCast,hsz] at hr;exact hr
theorem acX(z:Value)(n:Nat):(madeCells #[z] n).toList=List.replicate n z:=by
 unfold madeCells
 apply List.ext_getElem
 ·simp
 ·intro i h1 h2
  simp[Nat.mod_one]
section
variable {α:Type} {c:α→Value} {base:Nat} {e:TypeId} {w w':World} {g n cap:Nat} {l:List α}
theorem xf(l:List α):l.flatMap (fun x=>[c x])=l.map c:=by
 induction l with
 |nil=>rfl
 |cons x r ih=>simp[ih]
theorem Own.made(z:Value)(w:World)(n:Nat)(l:List α)(hl:l.length=n)(hb:base≤w.heap.size)(hm:n≤maxLen)(hc:l.map c=List.replicate n z) :
  Own (fun x=>[c x]) 1 base e (w.alloc (.cells (madeCells #[z] n) e)) (.slice (some ⟨w.heap.size,0,none⟩) n n) l:=by
 subst hl;exact Own.lit w _ l hb hm (by rw[size_madeCells,Nat.mul_one]) (by rw[acX,xf,hc])
end
theorem aaa(z:Array Value)(hz:0<z.size):∀n:Nat,(madeCells z (n*z.size)).toList=(List.replicate n z.toList).flatten
 | 0=>by simp[madeCells]
 |n+1=>by
  have ih:=aaa z hz n;rw[List.replicate_succ',List.flatten_append,←ih];unfold madeCells;rw[Nat.succ_mul];simp only[Array.toList_map,Array.toList_range];rw[List.range_add,List.map_append]
  congr 1
  simp only[List.flatten_cons,List.flatten_nil,List.append_nil,List.map_map]
  apply List.ext_getElem
  ·simp
  ·intro i h1 h2
   simp at h1
   simp[Nat.mod_eq_of_lt h1,Nat.mul_comm n,h1]
theorem aaQ{α:Type}(cells:α→List Value)(x:α)(n:Nat):(List.replicate n x).flatMap cells=(List.replicate n (cells x)).flatten:=by
 rw[List.flatMap_def,List.map_replicate]
theorem Own.madeAll{α:Type}{cells:α→List Value}{size base:Nat}{e:TypeId}(z:Value)(x:α)(w:World)(n:Nat)(hz:z.cells.size=size)(hx:z.cells.toList=cells x)(hp:0<size)(hb:base≤w.heap.size)(hm:n≤maxLen) :
  Own cells size base e (w.alloc (.cells (madeCells z.cells (n*size)) e)) (.slice (some ⟨w.heap.size,0,none⟩) n n) (List.replicate n x):=by
 subst hz
 have:=Own.lit (cells:=cells) (size:=z.cells.size) (base:=base) (e:=e) w (madeCells z.cells (n*z.cells.size)) (List.replicate n x) hb (by simpa using hm) (by rw[size_madeCells,List.length_replicate]) (by
  rw[aaa _ hp,aaQ,hx])
 rw[List.length_replicate] at this;exact this
section
variable {α:Type} {c0 c1:α→Value} {base:Nat} {e:TypeId} {w w':World} {g n cap:Nat} {l:List α}
end
theorem zF{P:Program}{α:Type}{cells:α→List Value}{t e:TypeId}{size bytes:Nat}{z:Value}(T:qc P t e size bytes z)(hc:yk cells size)
  {ops:Array Oper} {rest:List Oper} {o:Oper} {a:Act} {Q:Exit→Act→World→Prop} {w:World} (hgd:o.guard=none) (s x:Operand)
  (ho:o.op = .call { callee:= .builtin .append,args:=#[s,x],argTypes:=#[t,t]}) (base:Nat) (v:Value) (l:List α) (hs:a.eval s=v) (hown:Own cells size base e w v l)
  (y:α) (g c:Nat) (hx:a.eval x = .slice (some ⟨g,0,none⟩) 1 c) (hy:∀j u,(cells y)[j]? = some u→w.cell? ⟨g,j,none⟩=some u)
  (h63:l.length+1≤maxLen) (hbytes:(l.length+1)*bytes≤140737488355328) (hbase:base≤w.heap.size)
  (h:∀v' w',Own cells size base e w' v' (l++[y])→Below base w w'→w.grownBy w' v.ownBlock→wpList P ops Q rest (a.put o.dst v') w'):wpList P ops Q (o::rest) a w:=by
 obtain⟨i,hi,hz,hsz,hby⟩:=info_parts T.info
 refine wpList_append_own_at w hgd s x t ho base e i z size bytes T.under hi hz hsz hby T.zero T.pos v l.length (l.flatMap cells) hs hown ⟨g,0,none⟩ 1 c (cells y) hx
  (by rw[hc.len,Nat.one_mul]) (fun j u hu=>by
   have:=hy j u hu;unfold Addr.add
   split
   ·rename_i h0;rw[h0] at this;exact this
   ·simpa using this) (hc.one y) h63 hbytes hbase ?_
 intro v' w' hown' hg _ _;refine h v' w' ?_ ((Below.refl _ _).grown hg hbase fun k hk=>(hown.lt k hk).1) hg;unfold Own;rw[List.flatMap_append,List.length_append,List.flatMap_singleton];exact hown'
theorem Own.form{α:Type}{cells:α→List Value}{size base:Nat}{e:TypeId}{w:World}{A:Option Addr}{n c:Nat}{l:List α}(h:Own cells size base e w (.slice A n c) l)(hl:0<l.length) :
  ∃g,A=some ⟨g,0,none⟩∧base≤g∧g<w.heap.size∧n=l.length:=by
 obtain⟨g,cap,hv,hb,hlt⟩:=World.ownsRow.form h hl;simp only[Value.slice.injEq] at hv;exact⟨g,hv.1,hb,hlt,hv.2.1⟩
def yu{α:Type}(P:Program)(t:TypeId)(L:Lay α)(ok:α→Prop):Prop:=
 ∀(H:Type) (enc:TypeId×Value→H) (w:World) (spare:Nat→Bool) (held:Bool) (fuel:Nat) (cs:List Value) (x:DataW H×List MemPlace),DataW.trod enc P w 0 spare held fuel t cs=some x→∃y,L.rep w y cs∧ok y
def I64(n:Int):Prop:= -9223372036854775808≤n∧n≤9223372036854775807
theorem I64.of_wf{n:Int}(h:(Lit.int .i64 n).wf=true):I64 n:=by
 simpa[Lit.wf,IntKind.min,IntKind.max,IntKind.signed,IntKind.bits,I64] using h
section
variable {P:Program} {t e:TypeId}
theorem yu.int(ht:P.underlying t=some (.int .i64)):yu P t Lay.int I64:=fun H enc w spare held fuel cs x h=>by
 obtain⟨n,rfl,_,hw⟩:=DataW.trod_int ht h;exact⟨n,rfl,I64.of_wf hw⟩
theorem yu.bool(ht:P.underlying t=some .bool):yu P t Lay.bool (fun _=>True):=fun H enc w spare held fuel cs x h=>by
 obtain⟨n,rfl,_⟩:=DataW.trod_bool ht h;exact⟨n,rfl,trivial⟩
theorem yu.str(ht:P.underlying t=some .string):yu P t Lay.str (fun s=>s.size≤maxLen):=fun H enc w spare held fuel cs x h=>by
 obtain⟨s,rfl,_,hs⟩:=DataW.trod_string ht h;exact⟨s,rfl,hs⟩
theorem ack{w:World}{a:Addr}{v:Value}(h:w.cell? a=some v):a=⟨a.block,a.off,none⟩∧a.block<w.heap.size:=by
 unfold World.cell? at h
 split at h
 ·rename_i c _ _ hh
  split at h
  ·cases h
  ·rename_i hs
   refine⟨?_,(Array.getElem?_eq_some_iff.1 hh).1⟩
   cases a with
   |mk b o s=>cases s with
    |none=>rfl
    |some s=>simp at hs
 ·cases h
theorem jH(b o n:Nat):(⟨b,o,none⟩:Addr).add n=⟨b,o+n,none⟩:=by
 unfold Addr.add
 split
 ·rename_i h;rw[h,Nat.add_zero]
 ·rfl
theorem yu.slice{α:Type}{L:Lay α}{ok:α→Prop}(ht:P.underlying t=some (.slice e))(hc:P.cellsOf e=L.size)(hp:0<L.size)(he:yu P e L ok):yu P t L.slice (fun l=>l.length≤maxLen∧∀x∈l,ok x):=fun H enc w spare held fuel cs x h=>by
 rcases open_slice ht h with⟨rfl,_⟩|⟨a,len,cap,m,n,D,Pl,rfl,_,hl,hm,hmm,_,hi⟩
 ·exact⟨[],⟨none,0,rfl,Nat.le_refl _,Sl.nil⟩,by simp,by simp⟩
 ·have hlm:len≤m:=by rw[hmm];split<;>omega
  have hy:∀i,i<len→∃y cs',L.rep w y cs'∧ok y∧cs'.length=L.size∧∀j,j<L.size→w.cell? ((a.add (i*L.size)).add j)=cs'[j]?:=fun i hilt=>by
   obtain⟨cs',hcs,htr⟩:=hi i (by omega);rw[hc] at hcs;obtain⟨_,hlen,hat⟩:=World.cells?_some hcs;obtain⟨y,hr,hok⟩:=he H enc w spare held n cs' _ htr;exact⟨y,cs',hr,hok,hlen,hat⟩
  -- the list
  have hlist:∀k,k≤len→∃l:List α,l.length=k∧∀i x,l[i]? = some x→∃cs',L.rep w x cs'∧ok x∧cs'.length=L.size∧∀j,j<L.size→w.cell? ((a.add (i*L.size)).add j)=cs'[j]?:=by
   intro k
   induction k with
   |zero=>exact fun _=>⟨[],rfl,fun i x hx=>by simp at hx⟩
   |succ k ih=>
    intro hk;obtain⟨l,hll,hl2⟩:=ih (by omega);obtain⟨y,cs',h1,h2,h3,h4⟩:=hy k (by omega);refine⟨l++[y],by simp[hll],fun i x hx=>?_⟩
    rcases Nat.lt_or_ge i k with h5|h5
    ·rw[List.getElem?_append_left (by omega)] at hx
     exact hl2 i x hx
    ·have h6:i<(l++[y]).length:=(List.getElem?_eq_some_iff.1 hx).1
     have h7:i=k:=by simp[hll] at h6;omega
     subst h7;rw[List.getElem?_append_right (by omega),hll,Nat.sub_self] at hx
     simp at hx
     subst hx;exact⟨cs',h1,h2,h3,h4⟩
  obtain⟨l,hll,hl2⟩:=hlist len (Nat.le_refl _);refine⟨l,⟨some a,cap,by rw[hll],by omega,fun i x hx=>?_⟩,by omega,fun x hx=>?_⟩
  ·obtain⟨cs',h1,_,h3,h4⟩:=hl2 i x hx
   have hi2:i<l.length:=(List.getElem?_eq_some_iff.1 hx).1
   -- the address itself
   obtain⟨cs0,_,_,h03,h04⟩:=hl2 0 l[0] (List.getElem?_eq_getElem (by omega));have h0:=h04 0 hp;rw[List.getElem?_eq_getElem (by omega)] at h0;have e0:(a.add (0*L.size)).add 0=a:=by rw[Nat.zero_mul];simp[Addr.add]
   rw[e0] at h0;obtain⟨ha,hlt⟩:=ack h0;refine⟨a.block,a.off,cs',by rw[←ha],hlt,h1,fun j v hj=>?_⟩;have hj2:j<L.size:=by rw[←h3];exact(List.getElem?_eq_some_iff.1 hj).1
   have h5:=h4 j hj2;rw[ha,jH,jH] at h5;rw[h5];exact hj
  ·obtain⟨i,hi2,rfl⟩:=List.getElem_of_mem hx
   exact(hl2 i l[i] (List.getElem?_eq_getElem hi2)).choose_spec.2.1
end
def Lay.unit:Lay Unit:={ size:=0,rep:=fun _ _ vs=>vs=[],len:=fun h=>by rw[h];rfl,mono:=fun _ h=>h}
def xp{α:Type}(P:Program)(fs:List Field)(off:Nat)(L:Lay α)(ok:α→Prop):Prop:=
 ∀(H:Type) (enc:TypeId×Value→H) (w:World) (spare:Nat→Bool) (held:Bool) (n:Nat) (cs:List Value),cs.length=off+L.size→
  (∀(i:Nat) (f:Field),fs[i]? = some f→∃x,DataW.trod enc P w 0 spare held n f.type ((cs.drop f.offset).take (P.cellsOf f.type))=some x)→∃y,L.rep w y (cs.drop off)∧ok y
theorem xp.nil{P:Program}{off:Nat}:xp P [] off Lay.unit (fun _=>True):=fun H enc w spare held n cs hl _=>⟨(),by
 show cs.drop off=[]
 rw[List.drop_eq_nil_iff];simp only[Lay.unit] at hl
 omega,trivial⟩
theorem xp.cons{α β:Type}{P:Program}{f:Field}{fs:List Field}{off:Nat}{L:Lay α}{M:Lay β}{ok:α→Prop}{ok':β→Prop}(ho:f.offset=off)(hc:P.cellsOf f.type=L.size)(hL:yu P f.type L ok)(hM:xp P fs (off+L.size) M ok') :
  xp P (f::fs) off (L.and M) (fun x=>ok x.1∧ok' x.2):=fun H enc w spare held n cs hl h=>by
 obtain⟨x,hx⟩:=h 0 f rfl;rw[ho,hc] at hx;obtain⟨y,hy,hok⟩:=hL H enc w spare held n _ x hx;obtain⟨z,hz,hok'⟩:=hM H enc w spare held n cs (by rw[hl];show off+(L.size+M.size)=_;omega) (fun i g hg=>h (i+1) g hg);refine⟨(y,z),⟨_,_,?_,hy,hz⟩,hok,hok'⟩;rw[←List.drop_drop,List.take_append_drop]
theorem yu.struct{α:Type}{P:Program}{t:TypeId}{fs:Array Field}{L:Lay α}{ok:α→Prop}(ht:P.underlying t=some (.struct fs))(hc:P.cellsOf t=L.size)(hF:xp P fs.toList 0 L ok):yu P t L ok:=fun H enc w spare held fuel cs x h=>by
 obtain⟨xs,n,_,_,hlen,hxl,hg⟩:=DataW.trod_struct ht h
 have:=hF H enc w spare held n cs (by rw[hlen,hc,Nat.zero_add]) (fun i f hf=>by
  have h1:=hg i f (by simpa using hf)
  have hi:i<fs.size:=by
   have:=(List.getElem?_eq_some_iff.1 hf).1
   simpa using this
  rw[List.getElem?_eq_getElem (by omega)] at h1;exact⟨_,h1⟩)
 simpa using this
theorem yu.turn{α β:Type}{P:Program}{t:TypeId}{L:Lay α}{M:Lay β}{ok:α→Prop}{ok':β→Prop}(h:yu P t L ok)(f:α→β)(hr:∀w x vs,L.rep w x vs→M.rep w (f x) vs)(ho:∀x,ok x→ok' (f x)):yu P t M ok':=fun H enc w spare held fuel cs x hx=>by
 obtain⟨y,h1,h2⟩:=h H enc w spare held fuel cs x hx;exact⟨f y,hr _ _ _ h1,ho _ h2⟩
theorem yu.arg_slice{α:Type}{P:Program}{t:TypeId}{L:Lay α}{ok:List α→Prop}(h:yu P t L.slice ok){H:Type}{enc:TypeId×Value→H}{w:World}{spare:Nat→Bool}{held:Bool}{v:Value}{d:DataW H}{p:List MemPlace}(hv:v.cells=#[v])
  (ht:DataW.Trod enc P w 0 spare held t v d p):∃A c l,v = .slice A l.length c∧l.length≤c∧Sl L w A l∧ok l:=by
 obtain⟨fuel,hf⟩:=ht;rw[hv] at hf;obtain⟨l,⟨A,c,e,hc,hs⟩,hok⟩:=h H enc w spare held fuel _ _ hf;have e':v = .slice A l.length c:=by simpa using e
 exact⟨A,c,l,e',hc,hs,hok⟩
theorem kF{H:Type}{enc:TypeId×Value→H}{P:Program}{w:World}{base:Nat}{spare:Nat→Bool}{held:Bool}{t:TypeId}{v:Value}{d:DataW H}{p:List MemPlace}(h:DataW.Trod enc P w base spare held t v d p):∀x∈p,x.block<w.heap.size:=by
 obtain⟨m,hm⟩:=h;exact DataW.trod_lt m _ _ _ hm
def aay{H:Type}(P:Program)(t:TypeId)(d:DataW H):Prop:=∀z∈d.weights P t,z≤reachBytes
def zw{α:Type}(P:Program)(t:TypeId)(L:Lay α)(ok:α→Prop):Prop:=
 ∀(H:Type) (enc:TypeId×Value→H) (w:World) (spare:Nat→Bool) (held:Bool) (fuel:Nat) (cs:List Value) (x:DataW H×List MemPlace),DataW.trod enc P w 0 spare held fuel t cs=some x→aay P t x.1→∃y,L.rep w y cs∧ok y
section
variable {P:Program} {t e:TypeId}
theorem yu.light{α:Type}{L:Lay α}{ok:α→Prop}(h:yu P t L ok):zw P t L ok:=fun H enc w spare held fuel cs x hx _=>h H enc w spare held fuel cs x hx
theorem zw.int(ht:P.underlying t=some (.int .i64)):zw P t Lay.int I64:=(yu.int ht).light
theorem zw.bool(ht:P.underlying t=some .bool):zw P t Lay.bool (fun _=>True):=(yu.bool ht).light
theorem zw.str(ht:P.underlying t=some .string):zw P t Lay.str (fun s=>s.size≤maxLen):=(yu.str ht).light
theorem xq{H:Type}{e:TypeId}{d:DataW H}:∀{l:List (DataW H)},d∈l→∀z∈d.weights P e,z∈DataW.weightsAll P e l
 |x::r,hd,z,hz=>by
  rw[DataW.weightsAll,List.mem_append]
  rcases List.mem_cons.1 hd with h|h
  ·subst h;exact Or.inl hz
  ·exact Or.inr (xq h z hz)
theorem jf{H:Type}:∀{ts:List TypeId} {l:List (DataW H)} {i:Nat} {t:TypeId} {d:DataW H},ts[i]? = some t→l[i]? = some d→∀z∈d.weights P t,z∈DataW.weightsEach P ts l
 |[],l,i,t,d,h,_,_,_=>by simp at h
 |a::ts,[],i,t,d,_,h,_,_=>by simp at h
 |a::ts,x::r,0,t,d,h1,h2,z,hz=>by
  simp at h1 h2
  subst h1;subst h2;rw[DataW.weightsEach,List.mem_append];exact Or.inl hz
 |a::ts,x::r,i+1,t,d,h1,h2,z,hz=>by
  rw[DataW.weightsEach,List.mem_append];exact Or.inr (jf (by simpa using h1) (by simpa using h2) z hz)
theorem zw.slice{α:Type}{L:Lay α}{ok:α→Prop}(ht:P.underlying t=some (.slice e))(hc:P.cellsOf e=L.size)(hp:0<L.size)(he:zw P e L ok):zw P t L.slice (fun l=>l.length*P.bytesOf e≤reachBytes∧l.length≤maxLen∧∀x∈l,ok x):=fun H enc w spare held fuel cs x h hlight=>by
 rcases open_slice ht h with⟨rfl,_⟩|⟨a,len,cap,m,n,D,Pl,rfl,_,hl,hm,hmm,hx,hi⟩
 ·exact⟨[],⟨none,0,rfl,Nat.le_refl _,Sl.nil⟩,by simp,by simp,by simp⟩
 ·have hlm:len≤m:=by rw[hmm];split<;>omega
  subst hx
  have hw:(DataW.slice ((List.range len).map D) ((List.range (m-len)).map fun j=>D (len+j))).weights P t=(((List.range len).map D).length+((List.range (m-len)).map fun j=>D (len+j)).length)*P.bytesOf e::(DataW.weightsAll P e ((List.range len).map D)++DataW.weightsAll P e ((List.range (m-len)).map fun j=>D (len+j))):=by
   rw[DataW.weights,ht]
  have hlen:len*P.bytesOf e≤reachBytes:=by
   have h1:=hlight _ (by show _∈(DataW.slice _ _).weights P t;rw[hw];exact List.mem_cons_self ..);refine Nat.le_trans (Nat.mul_le_mul_right _ ?_) h1
   simp
  have hel:∀i,i<len→aay P e (D i):=fun i hilt z hz=>by
   refine hlight z ?_;show z∈(DataW.slice _ _).weights P t;rw[hw,List.mem_cons,List.mem_append];exact Or.inr (Or.inl (xq (List.mem_map.2 ⟨i,List.mem_range.2 hilt,rfl⟩) z hz))
  have hy:∀i,i<len→∃y cs',L.rep w y cs'∧ok y∧cs'.length=L.size∧∀j,j<L.size→w.cell? ((a.add (i*L.size)).add j)=cs'[j]?:=fun i hilt=>by
   obtain⟨cs',hcs,htr⟩:=hi i (by omega);rw[hc] at hcs;obtain⟨_,hlen,hat⟩:=World.cells?_some hcs;obtain⟨y,hr,hok⟩:=he H enc w spare held n cs' _ htr (hel i hilt);exact⟨y,cs',hr,hok,hlen,hat⟩
  have hlist:∀k,k≤len→∃l:List α,l.length=k∧∀i x,l[i]? = some x→∃cs',L.rep w x cs'∧ok x∧cs'.length=L.size∧∀j,j<L.size→w.cell? ((a.add (i*L.size)).add j)=cs'[j]?:=by
   intro k
   induction k with
   |zero=>exact fun _=>⟨[],rfl,fun i x hx=>by simp at hx⟩
   |succ k ih=>
    intro hk;obtain⟨l,hll,hl2⟩:=ih (by omega);obtain⟨y,cs',h1,h2,h3,h4⟩:=hy k (by omega);refine⟨l++[y],by simp[hll],fun i x hx=>?_⟩
    rcases Nat.lt_or_ge i k with h5|h5
    ·rw[List.getElem?_append_left (by omega)] at hx
     exact hl2 i x hx
    ·have h6:i<(l++[y]).length:=(List.getElem?_eq_some_iff.1 hx).1
     have h7:i=k:=by simp[hll] at h6;omega
     subst h7;rw[List.getElem?_append_right (by omega),hll,Nat.sub_self] at hx
     simp at hx
     subst hx;exact⟨cs',h1,h2,h3,h4⟩
  obtain⟨l,hll,hl2⟩:=hlist len (Nat.le_refl _);refine⟨l,⟨some a,cap,by rw[hll],by omega,fun i x hx=>?_⟩,by rw[hll];exact hlen,by omega,fun x hx=>?_⟩
  ·obtain⟨cs',h1,_,h3,h4⟩:=hl2 i x hx
   have hi2:i<l.length:=(List.getElem?_eq_some_iff.1 hx).1;obtain⟨cs0,_,_,h03,h04⟩:=hl2 0 l[0] (List.getElem?_eq_getElem (by omega));have h0:=h04 0 hp;rw[List.getElem?_eq_getElem (by omega)] at h0;have e0:(a.add (0*L.size)).add 0=a:=by rw[Nat.zero_mul];simp[Addr.add]
   rw[e0] at h0;obtain⟨ha,hlt⟩:=ack h0;refine⟨a.block,a.off,cs',by rw[←ha],hlt,h1,fun j v hj=>?_⟩;have hj2:j<L.size:=by rw[←h3];exact(List.getElem?_eq_some_iff.1 hj).1
   have h5:=h4 j hj2;rw[ha,jH,jH] at h5;rw[h5];exact hj
  ·obtain⟨i,hi2,rfl⟩:=List.getElem_of_mem hx
   exact(hl2 i l[i] (List.getElem?_eq_getElem hi2)).choose_spec.2.1
end
def zD{α:Type}(P:Program)(fs:List Field)(off:Nat)(L:Lay α)(ok:α→Prop):Prop:=
 ∀(H:Type) (enc:TypeId×Value→H) (w:World) (spare:Nat→Bool) (held:Bool) (n:Nat) (cs:List Value),cs.length=off+L.size→
  (∀(i:Nat) (f:Field),fs[i]? = some f→∃x,DataW.trod enc P w 0 spare held n f.type ((cs.drop f.offset).take (P.cellsOf f.type))=some x∧aay P f.type x.1)→∃y,L.rep w y (cs.drop off)∧ok y
theorem zD.nil{P:Program}{off:Nat}:zD P [] off Lay.unit (fun _=>True):=fun H enc w spare held n cs hl _=>⟨(),by
 show cs.drop off=[]
 rw[List.drop_eq_nil_iff];simp only[Lay.unit] at hl
 omega,trivial⟩
theorem zD.cons{α β:Type}{P:Program}{f:Field}{fs:List Field}{off:Nat}{L:Lay α}{M:Lay β}{ok:α→Prop}{ok':β→Prop}(ho:f.offset=off)(hc:P.cellsOf f.type=L.size)(hL:zw P f.type L ok)(hM:zD P fs (off+L.size) M ok') :
  zD P (f::fs) off (L.and M) (fun x=>ok x.1∧ok' x.2):=fun H enc w spare held n cs hl h=>by
 obtain⟨x,hx,hxl⟩:=h 0 f rfl;rw[ho,hc] at hx;obtain⟨y,hy,hok⟩:=hL H enc w spare held n _ x hx hxl;obtain⟨z,hz,hok'⟩:=hM H enc w spare held n cs (by rw[hl];show off+(L.size+M.size)=_;omega) (fun i g hg=>h (i+1) g hg);refine⟨(y,z),⟨_,_,?_,hy,hz⟩,hok,hok'⟩;rw[←List.drop_drop,List.take_append_drop]
theorem zw.struct{α:Type}{P:Program}{t:TypeId}{fs:Array Field}{L:Lay α}{ok:α→Prop}(ht:P.underlying t=some (.struct fs))(hc:P.cellsOf t=L.size)(hF:zD P fs.toList 0 L ok):zw P t L ok:=fun H enc w spare held fuel cs x h hlight=>by
 obtain⟨xs,n,_,hx,hlen,hxl,hg⟩:=DataW.trod_struct ht h;subst hx;have hw:(DataW.agg (xs.map (·.1))).weights P t=DataW.weightsEach P (fs.toList.map (·.type)) (xs.map (·.1)):=by rw[DataW.weights,ht]
 have:=hF H enc w spare held n cs (by rw[hlen,hc,Nat.zero_add]) (fun i f hf=>by
  have h1:=hg i f (by simpa using hf)
  have hi:i<fs.size:=by
   have:=(List.getElem?_eq_some_iff.1 hf).1
   simpa using this
  rw[List.getElem?_eq_getElem (by omega)] at h1;refine⟨_,h1,fun z hz=>hlight z ?_⟩;show z∈(DataW.agg _).weights P t;rw[hw];refine jf (i:=i) (t:=f.type) (d:=(xs[i]'(by omega)).1) ?_ ?_ z hz
  ·rw[List.getElem?_map,hf];rfl
  ·rw[List.getElem?_map,List.getElem?_eq_getElem (by omega)];rfl)
 simpa using this
theorem zw.turn{α β:Type}{P:Program}{t:TypeId}{L:Lay α}{M:Lay β}{ok:α→Prop}{ok':β→Prop}(h:zw P t L ok)(f:α→β)(hr:∀w x vs,L.rep w x vs→M.rep w (f x) vs)(ho:∀x,ok x→ok' (f x)):zw P t M ok':=fun H enc w spare held fuel cs x hx hl=>by
 obtain⟨y,h1,h2⟩:=h H enc w spare held fuel cs x hx hl;exact⟨f y,hr _ _ _ h1,ho _ h2⟩
theorem zw.arg{α:Type}{P:Program}{t:TypeId}{L:Lay α}{ok:α→Prop}(h:zw P t L ok){H:Type}{enc:TypeId×Value→H}{w:World}{spare:Nat→Bool}{held:Bool}{v:Value}{d:DataW H}{p:List MemPlace}
  (ht:DataW.Trod enc P w 0 spare held t v d p) (hl:aay P t d):∃y,L.rep w y v.cells.toList∧ok y:=by
 obtain⟨fuel,hf⟩:=ht;exact h H enc w spare held fuel _ _ hf hl
structure jq{α β:Type}(P:Program)(t k e:TypeId)(κ:α→Value)(okk:α→Prop)(lit:α→Lit)(ν:β→Value)(okv:β→Prop)(dat:β→DataW Unit)(zero:β):Prop where
 under:P.underlying t=some (.map k e)
 keyed:Maps.Keyed P k
 key:∀x,okk x→keyOf P k (κ x)=some (lit x)
 linj:∀x y,lit x=lit y→x=y
 val:∀y,okv y→plainElem P e (ν y)=some (dat y,[])
 inv:∀v y ps,plainElem P e v=some (dat y,ps)→v=ν y
 zok:okv zero
 zeros:∀w,(zeroValue e).run P w = .ok (ν zero) w
section
variable {α β:Type} {P:Program} {t k e:TypeId} {κ:α→Value} {okk:α→Prop} {lit:α→Lit} {ν:β→Value} {okv:β→Prop} {dat:β→DataW Unit} {zero:β}
def zZ(T:jq P t k e κ okk lit ν okv dat zero)(w:World)(b n:Nat)(f:α→Option β):Prop:=
 ∃D:DataW Unit,Maps.IsMap D∧w.ownsMap P k (plainElem P e) b n D∧∀x,okk x→Maps.has D (lit x)=(f x).isSome∧D.atKey (lit x) (dat zero)=dat ((f x).getD zero)
variable {T:jq P t k e κ okk lit ν okv dat zero} {w w':World} {b n:Nat} {f:α→Option β}
theorem zZ.made(T:jq P t k e κ okk lit ν okv dat zero)(w:World):zZ T (w.alloc (.map #[] 0)) w.heap.size 0 (fun _=>none):=
 ⟨.map [],Maps.isMap_empty,World.ownsMap_made w P k _,fun x _=>⟨rfl,rfl⟩⟩
theorem zZ.lt(h:zZ T w b n f):b<w.heap.size:=let ⟨_,_,h1,_⟩:=h;h1.lt
theorem zZ.kept{row:Option Nat}(h:zZ T w b n f)(hg:w.grownBy w' row)(hne:some b≠row):zZ T w' b n f:=by
 obtain⟨D,h1,h2,h3⟩:=h;exact⟨D,h1,h2.kept hg hne,h3⟩
theorem zZ.mono(h:zZ T w b n f)(hb:Below w.heap.size w w'):zZ T w' b n f:=
 h.kept (row:=none) ⟨hb.os,hb.tape,hb.output,hb.size,fun k hk _=>hb.block k hk⟩ (by simp)
theorem zZ.below{B:Nat}(h:zZ T w b n f)(hlt:b<B)(hb:Below B w w'):zZ T w' b n f:=by
 obtain⟨D,h1,⟨es,clock,hh,F,hs,hD⟩,h3⟩:=h;exact⟨D,h1,⟨es,clock,(hb.block b hlt).trans hh,F,hs,hD⟩,h3⟩
theorem zZ.alloc(h:zZ T w b n f)(o:Obj):zZ T (w.alloc o) b n f:=h.mono (zc (Below.refl _ _))
theorem zZ.later(h:zZ T w b n f)(x:zk w):zZ T x.W b n f:=h.mono x.h
theorem zZ.look(h:zZ T w b n f){x:α}(hx:okk x):(Instr.lookup t (.map (some b)) (κ x) false).run P w = .ok (ν ((f x).getD zero)) w:=by
 obtain⟨D,h1,h2,h3⟩:=h;obtain⟨v,ps,hrun,hv⟩:=h2.lookup T.keyed T.under (T.zeros w) (T.val zero T.zok) (T.key x hx);rw[(h3 x hx).2] at hv;rw[hrun,T.inv v _ ps hv]
theorem zZ.look_ok(h:zZ T w b n f){x:α}(hx:okk x):(Instr.lookup t (.map (some b)) (κ x) true).run P w = .ok (.tuple #[ν ((f x).getD zero),.bool (f x).isSome]) w:=by
 obtain⟨D,h1,h2,h3⟩:=h;obtain⟨v,ps,hrun,hv⟩:=h2.look_ok T.keyed T.under (T.zeros w) (T.val zero T.zok) (T.key x hx);rw[(h3 x hx).2] at hv;rw[hrun,T.inv v _ ps hv,(h3 x hx).1]
def putF[DecidableEq α](f:α→Option β)(x:α)(y:β):α→Option β:=fun z=>if z=x then some y else f z
theorem zZ.set[DecidableEq α](h:zZ T w b n f){x:α}{y:β}(hx:okk x)(hy:okv y)(hn:n<maxLen) :
  ∃w',(Instr.mapUpdate t (.map (some b)) (κ x) (ν y)).run P w = .ok () w'∧zZ T w' b (n+1) (putF f x y)∧w.grownBy w' (some b):=by
 obtain⟨D,h1,h2,h3⟩:=h;obtain⟨w',hrun,r1,r2⟩:=h2.update T.keyed T.under hn (T.key x hx) (T.val y hy);refine⟨w',hrun,⟨_,h1.put _ _,r1,fun z hz=>?_⟩,r2⟩;have hk:=T.keyed.key (T.key x hx);unfold putF
 by_cases e1:z=x
 ·subst e1
  rw[if_pos rfl,Maps.has_put_same h1 hk,Maps.atKey_put_same h1 hk];exact⟨rfl,rfl⟩
 ·have hne:lit z≠lit x:=fun h=>e1 (T.linj _ _ h)
  rw[if_neg e1,Maps.has_put_other hne,Maps.atKey_put_other hne];exact h3 z hz
end
theorem aab{α β:Type}[DecidableEq α]{P:Program}{t k e:TypeId}{κ:α→Value}{okk:α→Prop}{lit:α→Lit}{ν:β→Value}{okv:β→Prop}{dat:β→DataW Unit}{zero:β}(T:jq P t k e κ okk lit ν okv dat zero)
  {w:World} {ops:Array Oper} {rest:List Oper} {o:Oper} {a:Act} {Q:Exit→Act→World→Prop} (hg:o.guard=none) (m x v:Operand) (hop:o.op=Op.mapUpdate t m x v)
  (b n:Nat) (f:α→Option β) (hm:a.eval m = .map (some b)) (hown:zZ T w b n f) (hn:n<maxLen) (kx:α) (y:β) (hx:a.eval x=κ kx) (hv:a.eval v=ν y) (hkx:okk kx) (hy:okv y)
  (hK:∀w',zZ T w' b (n+1) (putF f kx y)→w.grownBy w' (some b)→wpList P ops Q rest (a.put o.dst undef) w') :
  wpList P ops Q (o::rest) a w:=by
 refine wpList_plain hg fun K' hK'=>?_
 obtain⟨w',hrun,r1,r2⟩:=hown.set hkx hy hn;unfold Oper.wp
 simp[execOp,hop,hm,hx,hv,hrun,Result.andThen]
 exact hK' _ _ (hK w' r1 r2)
def qL(x:Int):Prop:=(Lit.int .i64 x).wf=true
theorem yY{x:Int}(h1 : -9223372036854775808≤x)(h2:x≤9223372036854775807):qL x:=by
 simp[qL,Lit.wf,IntKind.min,IntKind.max,IntKind.signed,IntKind.bits];omega
theorem jq.int_bool{P:Program}{t k e:TypeId}(ht:P.underlying t=some (.map k e))(hk:P.underlying k=some (.int .i64))(he:P.underlying e=some .bool)(hz:∀w,(zeroValue e).run P w = .ok (.bool false) w) :
  jq P t k e (fun x:Int=> .int .i64 x) qL (fun x=> .int .i64 x) (fun y:Bool=> .bool y) (fun _=>True) (fun y=> .lit (.bool y)) false:=
 {under:=ht,keyed:=Maps.int_keyed hk,key:=fun x hx=>Maps.keyOf_int_mk hk hx,linj:=fun x y h=>by injection h,val:=fun y _=>plainElem_bool he y,
  inv:=fun v y ps h=>by
   unfold plainElem at h;rw[he] at h
   cases v<;>simp at h
   obtain⟨rfl,_⟩:=h
   rfl
  zok:=trivial,zeros:=hz}
structure kX{α β:Type}(P:Program)(t k e:TypeId)(κ:α→Value)(okk:α→Prop)(lit:α→Lit)(ν:β→Value)(R:Value→Option (DataW Unit×List MemPlace))(dat:β→DataW Unit)(zero:β):Prop where
 under:P.underlying t=some (.map k e)
 keyed:Maps.Keyed P k
 key:∀x,okk x→keyOf P k (κ x)=some (lit x)
 linj:∀x y,okk x→okk y→lit x=lit y→x=y
 val:∀y,R (ν y)=some (dat y,[])
 inv:∀v y ps,R v=some (dat y,ps)→v=ν y
 zeros:∀w,(zeroValue e).run P w = .ok (ν zero) w
section
variable {α β:Type} {P:Program} {t k e:TypeId} {κ:α→Value} {okk:α→Prop} {lit:α→Lit} {ν:β→Value} {R:Value→Option (DataW Unit×List MemPlace)} {dat:β→DataW Unit} {zero:β}
def MapE(T:kX P t k e κ okk lit ν R dat zero)(w:World)(b n:Nat)(f:α→Option β):Prop:=
 ∃D:DataW Unit,Maps.IsMap D∧w.ownsMap P k R b n D∧Maps.size D=n∧∀x,okk x→Maps.has D (lit x)=(f x).isSome∧D.atKey (lit x) (dat zero)=dat ((f x).getD zero)
variable {T:kX P t k e κ okk lit ν R dat zero} {w w':World} {b n:Nat} {f:α→Option β}
theorem MapE.made(T:kX P t k e κ okk lit ν R dat zero)(w:World):MapE T (w.alloc (.map #[] 0)) w.heap.size 0 (fun _=>none):=
 ⟨.map [],Maps.isMap_empty,World.ownsMap_made w P k _,rfl,fun x _=>⟨rfl,rfl⟩⟩
theorem MapE.lt(h:MapE T w b n f):b<w.heap.size:=let ⟨_,_,h1,_⟩:=h;h1.lt
theorem MapE.kept{row:Option Nat}(h:MapE T w b n f)(hg:w.grownBy w' row)(hne:some b≠row):MapE T w' b n f:=by
 obtain⟨D,h1,h2,h3,h4⟩:=h;exact⟨D,h1,h2.kept hg hne,h3,h4⟩
theorem MapE.mono(h:MapE T w b n f)(hb:Below w.heap.size w w'):MapE T w' b n f:=
 h.kept (row:=none) ⟨hb.os,hb.tape,hb.output,hb.size,fun k hk _=>hb.block k hk⟩ (by simp)
theorem MapE.alloc(h:MapE T w b n f)(o:Obj):MapE T (w.alloc o) b n f:=h.mono (zc (Below.refl _ _))
theorem MapE.later(h:MapE T w b n f)(x:zk w):MapE T x.W b n f:=h.mono x.h
theorem MapE.noCells(h:MapE T w b n f){cs:Array Value}{t':TypeId}{fr:Nat×Nat}:w.heap[b]?≠some (.cells cs t' fr):=by
 obtain⟨D,_,⟨es,clock,hh,_⟩,_⟩:=h;rw[hh];intro h
 cases h
theorem MapE.look(h:MapE T w b n f){x:α}(hx:okk x):(Instr.lookup t (.map (some b)) (κ x) false).run P w = .ok (ν ((f x).getD zero)) w:=by
 obtain⟨D,h1,h2,_,h3⟩:=h;obtain⟨v,ps,hrun,hv⟩:=h2.lookup T.keyed T.under (T.zeros w) (T.val zero) (T.key x hx);rw[(h3 x hx).2] at hv;rw[hrun,T.inv v _ ps hv]
theorem MapE.look_ok(h:MapE T w b n f){x:α}(hx:okk x):(Instr.lookup t (.map (some b)) (κ x) true).run P w = .ok (.tuple #[ν ((f x).getD zero),.bool (f x).isSome]) w:=by
 obtain⟨D,h1,h2,_,h3⟩:=h;obtain⟨v,ps,hrun,hv⟩:=h2.look_ok T.keyed T.under (T.zeros w) (T.val zero) (T.key x hx);rw[(h3 x hx).2] at hv;rw[hrun,T.inv v _ ps hv,(h3 x hx).1]
theorem MapE.len(h:MapE T w b n f)(ty:TypeId):(Builtin.len_ #[t] ty #[.map (some b)]).run P w = .ok (.int .i64 (n:Int)) w:=by
 obtain⟨D,_,h2,h3,_⟩:=h;rw[h2.len T.under ty,h3]
theorem acY{D:DataW Unit}{m:Nat}(h:w.ownsMap P k R b m D)(hs:Maps.size D=n):w.ownsMap P k R b n D:=by
 obtain⟨es,clock,hb,F,_,rfl⟩:=h;exact⟨es,clock,hb,F,by simp[Maps.size,Go.length_sorted] at hs;omega,rfl⟩
theorem MapE.set[DecidableEq α](h:MapE T w b n f){x:α}{y:β}(hx:okk x)(hn:n<maxLen) :
  ∃w',(Instr.mapUpdate t (.map (some b)) (κ x) (ν y)).run P w = .ok () w'∧MapE T w' b (if(f x).isSome then n else n+1) (putF f x y)∧w.grownBy w' (some b):=by
 obtain⟨D,h1,h2,hsz,h3⟩:=h;have htd:=h2.tidy T.keyed;obtain⟨w',hrun,r1,r2⟩:=h2.update T.keyed T.under hn (T.key x hx) (T.val y);have hk:=T.keyed.key (T.key x hx);have hs':Maps.size (D.put (lit x) (dat y))=if(f x).isSome then n else n+1:=by rw[Maps.size_put htd,(h3 x hx).1,hsz]
 refine⟨w',hrun,⟨_,h1.put _ _,acY r1 hs',hs',fun z hz=>?_⟩,r2⟩;unfold putF
 by_cases e1:z=x
 ·subst e1
  rw[if_pos rfl,Maps.has_put_same h1 hk,Maps.atKey_put_same h1 hk];exact⟨rfl,rfl⟩
 ·have hne:lit z≠lit x:=fun h=>e1 (T.linj _ _ hz hx h)
  rw[if_neg e1,Maps.has_put_other hne,Maps.atKey_put_other hne];exact h3 z hz
end
theorem kf{α β:Type}[DecidableEq α]{P:Program}{t k e:TypeId}{κ:α→Value}{okk:α→Prop}{lit:α→Lit}{ν:β→Value}{R:Value→Option (DataW Unit×List MemPlace)}{dat:β→DataW Unit}{zero:β}(T:kX P t k e κ okk lit ν R dat zero)
  {w:World} {ops:Array Oper} {rest:List Oper} {o:Oper} {a:Act} {Q:Exit→Act→World→Prop} (hg:o.guard=none) (m x v:Operand) (hop:o.op=Op.mapUpdate t m x v)
  (b n:Nat) (f:α→Option β) (hm:a.eval m = .map (some b)) (hown:MapE T w b n f) (hn:n<maxLen) (kx:α) (y:β) (hx:a.eval x=κ kx) (hv:a.eval v=ν y) (hkx:okk kx)
  (hK:∀w',MapE T w' b (if(f kx).isSome then n else n+1) (putF f kx y)→w.grownBy w' (some b)→wpList P ops Q rest (a.put o.dst undef) w') :
  wpList P ops Q (o::rest) a w:=by
 refine wpList_plain hg fun K' hK'=>?_
 obtain⟨w',hrun,r1,r2⟩:=hown.set (y:=y) hkx hn;unfold Oper.wp
 simp[execOp,hop,hm,hx,hv,hrun,Result.andThen]
 exact hK' _ _ (hK w' r1 r2)
theorem zZ.made0{α β:Type}{P:Program}{t k e:TypeId}{κ:α→Value}{okk:α→Prop}{lit:α→Lit}{ν:β→Value}{okv:β→Prop}{dat:β→DataW Unit}{zero:β}(T:jq P t k e κ okk lit ν okv dat zero)(w:World){b:Nat}(h:w.heap.size=b){f:α→Option β}(hf:∀x,f x=none) :
  zZ T (w.alloc (.map #[] 0)) b 0 f:=by
 subst h;have:f=fun _=>none:=funext hf
 rw[this];exact zZ.made T w
def zG(s:ByteArray):Prop:=s.size≤maxLen
theorem jq.str_int{P:Program}{t k e:TypeId}(ht:P.underlying t=some (.map k e))(hk:P.underlying k=some .string)(he:P.underlying e=some (.int .i64))(hz:∀w,(zeroValue e).run P w = .ok (.int .i64 0) w) :
  jq P t k e (fun x:ByteArray=> .string x) zG (fun x=> .string x.data.toList) (fun y:Int=> .int .i64 y) qL (fun y=> .lit (.int .i64 y)) 0:=
 {under:=ht,keyed:=Maps.string_keyed hk,key:=fun x hx=>WideMaps.keyOf_string_mk hk hx,linj:=fun x y h=>by
   injection h with h
   exact ByteArray.ext (Array.toList_inj.1 h)
  val:=fun y hy=>plainElem_int he hy,
  inv:=fun v y ps h=>by
   obtain⟨a,rfl,h2,_⟩:=plainElem_int_inv he h
   simp at h2
   obtain⟨rfl,_⟩:=h2
   rfl
  zok:=yY (by omega) (by omega),zeros:=hz}
@[go_sem] theorem zk.cell_drew{w:World}(x:zk w.drew){b o:Nat}{s:Option Nat}(h:b<w.heap.size):x.W.cell? ⟨b,o,s⟩=w.cell? ⟨b,o,s⟩:=x.h.cell (p:=⟨b,o,s⟩) h
@[go_sem] theorem zk.frozen_drew{w:World}(x:zk w.drew){b o:Nat}{s:Option Nat}(h:b<w.heap.size):x.W.frozen? ⟨b,o,s⟩=w.frozen? ⟨b,o,s⟩:=x.h.frozen (p:=⟨b,o,s⟩) h
def kg:Op→Bool
 |.move _ | .assign _ | .pick _ _ _ | .load _ _ | .binOp _ _ _ _ _ | .unOp _ _ _ | .convert _ _ _ | .field _ _ _ | .fieldAddr _ _ _ | .indexAddr _ _ _ | .index _ _ _ | .slice _ _ _ _ _ | .extract _ _ | .build _ _ | .makeFunc _ _ _ | .lookup _ _ _ _=>true
 |.call c=>match c.callee with
  |.builtin .len=>true
  |_=>false
 |_=>false
theorem acl(s:Sem Value)(P:Program)(w w':World)(n:Next)(h:(do let x ←s;pure (Next.value x):Sem Next).run P w = .ok n w'):∃u,n = .value u:=by
 simp only[Sem.run_bind] at h
 cases hs:s.run P w with
 |ok x w1=>simp[hs] at h;exact⟨x,h.1.symm⟩
 |halt x w1=>simp[hs] at h
theorem kj{o:Oper}(ho:kg o.op=true){ρ:Operand→Value}{P:Program}{w w':World}{n:Next}(h:(execOp ρ o).run P w = .ok n w'):∃u,n = .value u:=by
 unfold execOp at h
 cases hop:o.op<;>rw[hop] at ho h<;>simp only[kg] at ho<;>try (exact acl _ _ _ _ _ h)
 case move=>simp at h;exact⟨_,h.1.symm⟩
 case assign=>simp at h;exact⟨_,h.1.symm⟩
 case pick c a b=>
  simp only[Sem.run_bind] at h
  cases hs:(asBool (ρ c)).run P w with
  |ok x w1=>simp[hs] at h;exact⟨_,h.1.symm⟩
  |halt x w1=>simp[hs] at h
 case call c=>
  split at ho
  ·rename_i hc
   simp[resolve,hc,invoke,builtin] at h
   exact acl _ _ _ _ _ (by simpa using h)
  ·cases ho
 all_goals (cases ho)
section
variable {P:Program} {ops:Array Oper} {md:Region.Mode} {Q:Exit→Act→World→Prop}
def QF:Exit→Act→World→Prop:=fun _ _ _=>False
theorem jQ:¬LetsOut QF:=fun⟨_,_,h⟩=>h
theorem abU{i:Nat}{K:Act→World→Prop}{a:Act}{w:World}(h:wpOp P ops QF i K a w):wpOp P ops Q i K a w:=by
 unfold wpOp at *
 split
 ·rename_i ho;simpa[ho] using h
 ·rename_i o ho
  simp only[ho] at h
  split
  ·rename_i hw
   simp only[hw,if_true] at h
   rcases h with h|h
   ·left
    unfold Oper.wp at *
    generalize(execOp a.eval o).run P w=r at *
    cases r with
    |ok n w'=>
     cases n<;>simp only[Oper.upon] at h ⊢<;>try (exact h)
     exact Calls.mono h (fun e w'' he=>by cases e<;>first|exact he|exact absurd he jQ|exact he.elim)
    |halt x w'=>cases x<;>simp only[Oper.upon] at h ⊢<;>exact h.elim
   ·exact absurd h.2 jQ
  ·rename_i hw;simp only[hw] at h;exact h
def yM(P:Program)(ops:Array Oper)(w:World)(o:Oper)(v:Value)(a:Act):Prop:=
 (Region.wanted o (yielded ops a.tmps)=true∧∀w',Below w.heap.size w w'→(execOp a.eval o).run P w' = .ok (.value v) w')∨
 (Region.wanted o (yielded ops a.tmps)=false∧v=undef)
theorem yM.later{w w1:World}{o:Oper}{v:Value}{a:Act}(h:yM P ops w o v a)(hb:Below w.heap.size w w1):yM P ops w1 o v a:=by
 rcases h with⟨h1,h2⟩|h
 ·exact .inl ⟨h1,fun w' hb'=>h2 w' (za hb hb')⟩
 ·exact .inr h
theorem yM.wpOp{i:Nat}{w:World}{o:Oper}{v:Value}{a:Act}(hi:ops[i]? = some o)(h:yM P ops w o v a){K:Act→World→Prop}(hK:K (a.put o.dst v) w):wpOp P ops Q i K a w:=by
 unfold Go.wpOp;simp only[hi]
 rcases h with⟨hw,h2⟩|⟨hw,rfl⟩
 ·simp only[hw,if_true]
  left
  unfold Oper.wp;rw[h2 w (Below.refl _ _)];exact hK
 ·simp only[hw,Bool.false_eq_true,if_false];exact hK
theorem yM.same{w:World}{o:Oper}{v:Value}{a a':Act}(hy:yM P ops w o v a)(he:execOp a'.eval o=execOp a.eval o)
  (hw:Region.wanted o (yielded ops a'.tmps)=Region.wanted o (yielded ops a.tmps)):yM P ops w o v a':=by
 unfold yM at *
 rw[he,hw];exact hy
theorem xg(a:Act)(ds:List Deferred):({ a with defers:=ds}:Act).eval=a.eval:=by
 funext x;cases x<;>rfl
theorem ag6{j:Nat}{w:World}{oi oj:Oper}{v:Value}(hj:ops[j]? = some oj)(hap:oi.apart ops oj=true)(hsi:∀cs b,oi.op≠ .select cs b)(hsj:∀cs b,oj.op≠ .select cs b){K:Act→World→Prop}{a:Act}
  (hy:yM P ops w oi v a) (h:wpOp P ops QF j K (a.put oi.dst v) w):wpOp P ops QF j (fun a' w'=>yM P ops w oi v a'∧K (a'.put oi.dst v) w') a w:=by
 obtain⟨h1,h2,h3⟩:=Oper.apart_spec hap
 have keep:∀u,yM P ops w oi v (a.put oj.dst u):=fun u=>
  hy.same (execOp_put oi hsi a oj.dst u h3) (wanted_put oi a oj.dst u h3)
 have keepD:∀(ds:List Deferred) u,yM P ops w oi v (({ a with defers:=ds}:Act).put oj.dst u):=fun ds u=>by
  have hy':yM P ops w oi v { a with defers:=ds}:=hy.same (by rw[xg]) rfl;exact hy'.same (execOp_put oi hsi _ oj.dst u h3) (wanted_put oi _ oj.dst u h3)
 have comm:∀(b:Act) u,(b.put oj.dst u).put oi.dst v=(b.put oi.dst v).put oj.dst u:=fun b u=>(Act.put_comm b v u h2).symm
 unfold wpOp at *
 simp only[hj] at *
 rw[wanted_put oj a oi.dst v h1] at h
 split
 ·rename_i hw
  simp only[hw,if_true] at h
  rcases h with h|h
  ·left
   unfold Oper.wp at *
   rw[execOp_put oj hsj a oi.dst v h1] at h;generalize(execOp a.eval oj).run P w=r at *
   cases r with
   |ok n w'=>
    cases n<;>simp only[Oper.upon] at h ⊢
    case value u=>exact⟨keep u,by rw[comm];exact h⟩
    case skip=>exact⟨keep _,by rw[comm];exact h⟩
    case defer d=>
     refine⟨keepD _ _,?_⟩;rw[comm];rw[Act.put_defers] at h;exact h
    case enter f args=>
     exact h.mono fun e w'' he=>by
      cases e with
      |returned u=>exact⟨keep u,by rw[comm];exact he⟩
      |panicked c=>exact he
      |outgrown=>exact he
    case row r args=>exact Rows.mono h fun u w'' he=>⟨keep u,by rw[comm];exact he⟩
   |halt x w'=>cases x<;>simp only[Oper.upon] at h ⊢<;>exact h
  ·exact absurd h.2 jQ
 ·rename_i hw
  simp only[hw] at h;exact⟨keep _,by rw[comm];exact h⟩
def wpH(P:Program)(md:Region.Mode)(ops:Array Oper)(n:Nat)(L:Array Bool→Act→World→Prop):Nat→Array Bool→Act→World→Prop
 | 0,listed,a,w=>L listed a w
 |f+1,listed,a,w=>
  Region.ready md ops listed≠[]∧
  ∀i∈Region.ready md ops listed,i<n∧wpOp P ops QF i (fun a' w'=>Below w.heap.size w w'∧wpH P md ops n L f (listed.setIfInBounds i true) a' w') a w
theorem abi{n g:Nat}{L:Array Bool→Act→World→Prop}(hL:∀listed a w,L listed a w→wpAny P md ops Q g listed a w) :
  ∀(f:Nat) (listed:Array Bool) (a:Act) (w:World),wpH P md ops n L f listed a w→wpAny P md ops Q (f+g) listed a w
 | 0,listed,a,w,h=>by rw[Nat.zero_add];exact hL _ _ _ h
 |f+1,listed,a,w,h=>by
  rw[show f+1+g=(f+g)+1 by omega];exact⟨fun h0=>absurd h0 h.1,fun i hi=>abU (wpOp_mono (fun a' w' h'=>abi hL f _ a' w' h'.2) (h.2 i hi).2)⟩
def qV(md:Region.Mode)(ops:Array Oper)(n:Nat):Prop:=∀listed,HeadInv md ops n listed→∀i,i<n→listed.getD i true=false→∀t,n≤t→t∉Region.ready md ops listed
theorem af8{n i:Nat}{oi:Oper}{v:Value}{L:Array Bool→Act→World→Prop}(hi:ops[i]? = some oi)(hsel:∀(j:Nat) (o:Oper) cs b,ops[j]? = some o→o.op≠ .select cs b)
  (hT:qV md ops n) (hin:i<n) (hdone:∀listed a w,L listed a w→∀j∈Region.ready md ops listed,n≤j) :
  ∀(f:Nat) (listed:Array Bool) (a:Act) (w:World),HeadInv md ops n listed→
   (∀j oj,ops[j]? = some oj→j≠i→listed.getD j true=false→(∀e∈oj.after,Region.binds md e=true→e.on≠i)→oi.apart ops oj=true)→
   i∈Region.ready md ops listed→yM P ops w oi v a→
   wpH P md ops n L f (listed.setIfInBounds i true) (a.put oi.dst v) w→wpH P md ops n L (f+1) listed a w:=by
 intro f
 induction f with
 |zero=>
  intro listed a w inv _ hr hy H;have hun:=(mem_ready.1 hr).1;refine⟨fun h=>(by rw[h] at hr;cases hr),fun j hj=>?_⟩
  have hjn:j<n:=by
   rcases Nat.lt_or_ge j n with h|h
   ·exact h
   ·exact absurd hj (hT _ inv i hin hun j h)
  refine⟨hjn,?_⟩
  by_cases hji:j=i
  ·subst hji;exact hy.wpOp hi ⟨Below.refl _ _,H⟩
  ·have:=hdone _ _ _ H j (ready_mono hj hji)
   omega
 |succ f ih=>
  intro listed a w inv hfree hr hy H;have hun:=(mem_ready.1 hr).1;refine⟨fun h=>(by rw[h] at hr;cases hr),fun j hj=>?_⟩
  have hjn:j<n:=by
   rcases Nat.lt_or_ge j n with h|h
   ·exact h
   ·exact absurd hj (hT _ inv i hin hun j h)
  refine⟨hjn,?_⟩
  by_cases hji:j=i
  ·subst hji;exact hy.wpOp hi ⟨Below.refl _ _,H⟩
  ·have h1:=(H.2 j (ready_mono hj hji)).2
   obtain⟨hjun,oj,hoj,hall⟩:=mem_ready.1 hj
   have hnot:∀e∈oj.after,Region.binds md e=true→e.on≠i:=fun e he hb heq=>by
    have h1:=hall e he hb;rw[heq,getD_both hun] at h1
    cases h1
   have h2:=ag6 hoj (hfree j oj hoj hji hjun hnot) (fun cs b=>hsel i oi cs b hi) (fun cs b=>hsel j oj cs b hoj) hy h1
   have hfree':∀k ok,ops[k]? = some ok→k≠i→(listed.setIfInBounds j true).getD k true=false→
     (∀e∈ok.after,Region.binds md e=true→e.on≠i)→oi.apart ops ok=true:=fun k ok hk hki hun hno=>by
    refine hfree k ok hk hki ?_ hno
    by_cases hjk:j=k
    ·subst hjk;exact hjun
    ·rw[getD_set_ne true hjk] at hun;exact hun
   refine wpOp_mono (fun a' w' h3=>⟨h3.2.1,ih (listed.setIfInBounds j true) a' w' (inv.set hj hjn) hfree' (ready_mono hr (Ne.symm hji)) (h3.1.later h3.2.1) ?_⟩) h2;rw[Array.setIfInBounds_comm _ _ hji];exact h3.2.2
def jh:List Nat→Array Bool→Array Bool
 |[],listed=>listed
 |i::r,listed=>jh r (listed.setIfInBounds i true)
def Region.regB(ops:Array Oper)(n:Nat):Bool:=Region.noSelect ops&&(decide (n=ops.size)||(decide (n<ops.size)&&Region.sinkB .any ops n&&Region.chainB .any ops n))
def Region.chunkB(ops:Array Oper)(n:Nat):List Nat→Array Bool→Bool
 |[],_=>true
 |i::r,listed=>(Region.ready .any ops listed).contains i&&Region.free .any ops listed i&&decide (i<n)&&((ops[i]?).map fun o=>kg o.op).getD false&&Region.chunkB ops n r (listed.setIfInBounds i true)
def zo(ops:Array Oper)(idx:List Nat):List Oper:=idx.filterMap fun i=>ops[i]?
def RW(P:Program)(ops:Array Oper)(Q:Exit→Act→World→Prop)(n f:Nat)(listed:Array Bool)(a:Act)(w:World):Prop:=
 qV .any ops n→Region.noSelect ops=true→HeadInv .any ops n listed→
  wpH P .any ops n (fun listed' a' w'=>(∀j∈Region.ready .any ops listed',n≤j)∧wpAny P .any ops Q (ops.size-n) listed' a' w') f listed a w
theorem qV.of{n:Nat}(h:(decide (n=ops.size)||(decide (n<ops.size)&&Region.sinkB md ops n&&Region.chainB md ops n))=true):qV md ops n:=by
 simp only[Bool.or_eq_true,Bool.and_eq_true,decide_eq_true_eq] at h
 rcases h with h|⟨⟨h1,h2⟩,h3⟩
 ·intro listed inv i hi hun t ht hr
  obtain⟨_,ot,hot,_⟩:=mem_ready.1 hr;have:=(Array.getElem?_eq_some_iff.1 hot).1
  omega
 ·intro listed inv i hi hun t ht
  exact tail_waits h2 h3 h1 inv _ i rfl hi hun t ht
theorem RW.chunk{n f:Nat}:∀(idx:List Nat) {listed:Array Bool} {a:Act} {w:World},Region.chunkB ops n idx listed=true→
  wpQuiet P ops (fun w'=>∃x:zk w,w'=x.W) (fun a'=>RW P ops Q n f (jh idx listed) a' w) (zo ops idx) a→RW P ops Q n (f+idx.length) listed a w
 |[],listed,a,w,_,h=>h
 |i::r,listed,a,w,hB,h=>by
  intro hT hsel inv;simp only[Region.chunkB,Bool.and_eq_true,decide_eq_true_eq] at hB;obtain⟨⟨⟨⟨hr,hf⟩,hin⟩,hp⟩,hB'⟩:=hB;have hr':i∈Region.ready .any ops listed:=by simpa using hr
  obtain⟨_,o,ho,_⟩:=mem_ready.1 hr';rw[ho] at hp;have hp':kg o.op=true:=by simpa using hp
  have hpk:zo ops (i::r)=o::zo ops r:=by unfold zo;rw[List.filterMap_cons,ho]
  rw[hpk] at h
  have hst:qOp P ops (fun w'=>∃x:zk w,w'=x.W) i (wpQuiet P ops (fun w'=>∃x:zk w,w'=x.W) (fun a'=>RW P ops Q n f (jh (i::r) listed) a' w) (zo ops r)) a:=by
   unfold qOp;simp only[ho];exact h
  obtain⟨v,hy,hK⟩:=yieldsIn_of_qOp ho hst
  have hrest:yM P ops w o v a:=by
   rcases hy with⟨h1,h2⟩|⟨h1,h2⟩
   ·refine .inl ⟨h1,fun w' hb=>?_⟩
    have h3:=h2 w' ⟨⟨w',hb⟩,rfl⟩;unfold Oper.quietAt at h3
    cases hrun:(execOp a.eval o).run P w' with
    |ok nx w''=>
     obtain⟨u,rfl⟩:=kj hp' hrun;rw[hrun] at h3;obtain⟨e1,e2⟩:=h3;rw[e1,e2]
    |halt x w''=>rw[hrun] at h3;exact h3.elim
   ·exact .inr ⟨h1,h2⟩
  have hrec:=RW.chunk (f:=f) r hB' hK hT hsel (inv.set hr' hin);exact af8 ho (Region.noSelect_spec hsel) hT hin (fun _ _ _ hL=>hL.1) _ listed a w inv (Region.free_spec ho hf) hr' hrest hrec
theorem RW.single{n f:Nat}{listed:Array Bool}{a:Act}{w:World}(i:Nat){o:Oper}(ho:ops[i]? = some o)(hr:Region.ready .any ops listed=[i])(hin:i<n)
  (h:∀K:Act→World→Prop,(∀a' w',Below w.heap.size w w'→RW P ops Q n f (listed.setIfInBounds i true) a' w'→K a' w')→wpList P ops (Exit.then K QF) [o] a w):RW P ops Q n (f+1) listed a w:=by
 intro hT hsel inv;refine⟨fun h0=>(by rw[hr] at h0;cases h0),fun j hj=>?_⟩;rw[hr] at hj;have hji:j=i:=by simpa using hj
 subst hji;refine⟨hin,?_⟩;have h1:=h (fun a' w'=>Below w.heap.size w w'∧wpH P .any ops n (fun listed' a' w'=>(∀j∈Region.ready .any ops listed',n≤j)∧wpAny P .any ops Q (ops.size-n) listed' a' w') f (listed.setIfInBounds j true) a' w') (fun a' w' hb h'=>⟨hb,h' hT hsel (inv.set (by rw[hr];simp) hin)⟩);unfold wpOp;simp only[ho];simp only[wpList] at h1
 split
 ·rename_i hw
  simp only[hw,if_true] at h1
  rcases h1 with h1|h1
  ·left
   unfold Oper.wp at *
   generalize(execOp a.eval o).run P w=r at *
   cases r with
   |ok nx w'=>
    cases nx<;>simp only[Oper.upon,Exit.then] at h1 ⊢<;>exact h1
   |halt x w'=>cases x<;>simp only[Oper.upon,Exit.then] at h1 ⊢<;>exact h1
  ·obtain⟨_,_,_,h⟩:=h1;exact h.elim
 ·rename_i hw
  simp only[hw] at h1;exact h1
theorem RW.both{n f:Nat}{listed:Array Bool}{a:Act}{w:World}(i j:Nat){oi oj:Oper}(hi:ops[i]? = some oi)(hj:ops[j]? = some oj)(hr:Region.ready .any ops listed=[i,j])(hin:i<n)(hjn:j<n)
  (h1:∀K:Act→World→Prop,(∀a' w',Below w.heap.size w w'→RW P ops Q n f (listed.setIfInBounds i true) a' w'→K a' w')→wpList P ops (Exit.then K QF) [oi] a w)
  (h2:∀K:Act→World→Prop,(∀a' w',Below w.heap.size w w'→RW P ops Q n f (listed.setIfInBounds j true) a' w'→K a' w')→wpList P ops (Exit.then K QF) [oj] a w):RW P ops Q n (f+1) listed a w:=by
 intro hT hsel inv
 have key:∀(k:Nat) (o:Oper),ops[k]? = some o→k∈Region.ready .any ops listed→k<n→
   (∀K:Act→World→Prop,(∀a' w',Below w.heap.size w w'→RW P ops Q n f (listed.setIfInBounds k true) a' w'→K a' w')→wpList P ops (Exit.then K QF) [o] a w)→
   wpOp P ops QF k (fun a' w'=>Below w.heap.size w w'∧wpH P .any ops n (fun listed' a' w'=>(∀j∈Region.ready .any ops listed',n≤j)∧wpAny P .any ops Q (ops.size-n) listed' a' w') f (listed.setIfInBounds k true) a' w') a w:=by
  intro k o ho hk hkn h;have h1:=h (fun a' w'=>Below w.heap.size w w'∧wpH P .any ops n (fun listed' a' w'=>(∀j∈Region.ready .any ops listed',n≤j)∧wpAny P .any ops Q (ops.size-n) listed' a' w') f (listed.setIfInBounds k true) a' w') (fun a' w' hb h'=>⟨hb,h' hT hsel (inv.set hk hkn)⟩);unfold wpOp;simp only[ho];simp only[wpList] at h1
  split
  ·rename_i hw
   simp only[hw,if_true] at h1
   rcases h1 with h1|h1
   ·left
    unfold Oper.wp at *
    generalize(execOp a.eval o).run P w=r at *
    cases r with
    |ok nx w'=>
     cases nx<;>simp only[Oper.upon,Exit.then] at h1 ⊢<;>exact h1
    |halt x w'=>cases x<;>simp only[Oper.upon,Exit.then] at h1 ⊢<;>exact h1
   ·obtain⟨_,_,_,h⟩:=h1;exact h.elim
  ·rename_i hw
   simp only[hw] at h1;exact h1
 refine⟨fun h0=>(by rw[hr] at h0;cases h0),fun k hk=>?_⟩;have hk':=hk;rw[hr] at hk';simp only[List.mem_cons,List.not_mem_nil,or_false] at hk'
 rcases hk' with rfl|rfl
 ·exact⟨hin,key _ _ hi hk hin h1⟩
 ·exact⟨hjn,key _ _ hj hk hjn h2⟩
theorem RW.tail{l:List Oper}{n:Nat}{listed:Array Bool}{a:Act}{w:World}(hB:Region.seqB .any l.toArray (l.length-n) n listed=true)(h:wpList P l.toArray Q (l.drop n) a w):RW P l.toArray Q n 0 listed a w:=by
 intro hT hsel inv;refine⟨seqB_ready hB,?_⟩;have hdl:(l.drop n).length=l.toArray.size-n:=by simp
 have:=wpAny_of_seq (md:= .any) (Q':=Q) (l.drop n) n listed a w (fun j=>by simp[List.getElem?_drop]) (by rw[hdl];simpa using hB) h;rwa[hdl] at this
theorem RW.done{n:Nat}{listed:Array Bool}{a:Act}{w:World}(hn:ops.size-n=0)(hB:Region.ready .any ops listed=[])(h:Q .normal a w):RW P ops Q n 0 listed a w:=by
 intro hT hsel inv;refine⟨fun j hj=>(by rw[hB] at hj;cases hj),?_⟩;rw[hn];exact⟨hB,h⟩
theorem yy{id:Nat}{a:Act}{w:World}{l:List Oper}(n:Nat)(hm:P.follows .mixedOrders=true)(hB:Region.regB l.toArray n=true)
  (h:RW P l.toArray Q n n (Array.replicate l.length false) a w.drew):(Code.region id l.toArray true).wp P Q a w:=by
 simp only[Region.regB,Bool.and_eq_true] at hB;have hT:=qV.of hB.2
 have hn:n≤l.length:=by
  have:=hB.2;simp only[Bool.or_eq_true,Bool.and_eq_true,decide_eq_true_eq] at this
  rcases this with h|⟨⟨h,_⟩,_⟩
  ·simp at h;omega
  ·simp at h;omega
 have inv0:HeadInv .any l.toArray n (Array.replicate l.length false):=
  ⟨by simp,fun j oj _ hl=>(by rw[getD_replicate_false] at hl;cases hl),fun t _ ht=>getD_in (by simpa using ht) (getD_replicate_false _ _)⟩
 refine wp_region_any hm ?_;have:=abi (Q:=Q) (g:=l.toArray.size-n) (fun listed a' w' hL=>hL.2) _ _ _ _ (h hT hB.1 inv0);rw[show n+(l.toArray.size-n)=l.toArray.size by simp;omega] at this
 simpa using this
end
def Box(w:World)(b:Nat)(cs:List Value)(t:TypeId):Prop:=w.heap[b]? = some (.cells cs.toArray t (0,0))
section
variable {w w':World} {b:Nat} {cs:List Value} {t:TypeId}
theorem Box.lt(h:Box w b cs t):b<w.heap.size:=(Array.getElem?_eq_some_iff.1 h).1
theorem Box.cell(h:Box w b cs t)(i:Nat){v:Value}(hi:cs[i]? = some v):w.cell? ⟨b,i,none⟩=some v:=by
 have h':w.heap[b]? = some (.cells cs.toArray t (0,0)):=h;unfold World.cell?;simp only[h']
 simpa using hi
theorem Box.free(h:Box w b cs t)(i:Nat):w.frozen? ⟨b,i,none⟩=false:=by
 have h':w.heap[b]? = some (.cells cs.toArray t (0,0)):=h;unfold World.frozen?;simp only[h']
 simp
theorem Box.below{B:Nat}(h:Box w b cs t)(hlt:b<B)(hb:Below B w w'):Box w' b cs t:=(hb.block b hlt).trans h
theorem Box.mono(h:Box w b cs t)(hb:Below w.heap.size w w'):Box w' b cs t:=h.below h.lt hb
theorem Box.grown{row:Option Nat}(h:Box w b cs t)(hg:w.grownBy w' row)(hne:some b≠row):Box w' b cs t:=(hg.block b h.lt hne).trans h
theorem Box.new(w:World)(cs:List Value)(t:TypeId):Box (w.alloc (.cells cs.toArray t)) w.heap.size cs t:=heap_alloc_new w _
theorem Box.at{w:World}{b:Nat}{cs:List Value}{t:TypeId}(h:w.heap.size=b):Box (w.alloc (.cells cs.toArray t)) b cs t:=by subst h;exact Box.new w cs t
theorem Box.alloc(h:Box w b cs t)(o:Obj):Box (w.alloc o) b cs t:=h.mono (zc (Below.refl _ _))
theorem Box.drew(h:Box w b cs t):Box w.drew b cs t:=h
theorem Box.set(h:Box w b cs t)(i:Nat)(v:Value):Box (w.setCell ⟨b,i,none⟩ v) b (cs.set i v) t:=by
 have h':w.heap[b]? = some (.cells cs.toArray t (0,0)):=h;unfold Box World.setCell;simp only[Array.getElem?_modify,if_true,h',Option.map_some]
 simp
theorem Box.setOther(h:Box w b cs t){p:Addr}(hp:p.block≠b)(v:Value):Box (w.setCell p v) b cs t:=by
 have h':w.heap[b]? = some (.cells cs.toArray t (0,0)):=h;unfold Box World.setCell;simp only[Array.getElem?_modify,if_neg hp,h']
end
theorem keptC{w w':World}{b o:Nat}{v:Value}(hc:w.cell? ⟨b,o,none⟩=some v)(h:b<w.heap.size)(hb:Below w.heap.size w w'):w'.cell? ⟨b,o,none⟩=some v:=by rw[hb.cell h];exact hc
theorem zq(w:World)(b i:Nat)(v:Value):w.grownBy (w.setCell ⟨b,i,none⟩ v) (some b):=by
 refine⟨rfl,rfl,rfl,by simp[World.setCell],fun k hk hne=>?_⟩;unfold World.setCell;simp only[Array.getElem?_modify];rw[if_neg (fun h=>hne (by rw[h]))]
theorem zJ{w w1 w2:World}{row:Option Nat}(h1:w.grownBy w1 row)(h2:w1.grownBy w2 row):w.grownBy w2 row:=
 ⟨h2.os.trans h1.os,h2.tape.trans h1.tape,h2.output.trans h1.output,Nat.le_trans h1.size h2.size,fun k hk hne=>(h2.block k (Nat.lt_of_lt_of_le hk h1.size) hne).trans (h1.block k hk hne)⟩
theorem jR(w:World)(b i j:Nat)(v u:Value):w.grownBy ((w.setCell ⟨b,i,none⟩ v).setCell ⟨b,j,none⟩ u) (some b):=zJ (zq w b i v) (zq _ b j u)
theorem Box.store2{w:World}{b:Nat}{a0 a1:Value}{t:TypeId}(h:Box w b [a0,a1] t)(v0 v1:Value) :
  Box ((w.setCell ⟨b,0,none⟩ v0).setCell ⟨b,1,none⟩ v1) b [v0,v1] t∧w.grownBy ((w.setCell ⟨b,0,none⟩ v0).setCell ⟨b,1,none⟩ v1) (some b):=
 ⟨(h.set 0 v0).set 1 v1,jR _ _ _ _ _ _⟩
theorem Box.store3{w:World}{b:Nat}{a0 a1 a2:Value}{t:TypeId}(h:Box w b [a0,a1,a2] t)(v0 v1 v2:Value) :
  Box (((w.setCell ⟨b,0,none⟩ v0).setCell ⟨b,1,none⟩ v1).setCell ⟨b,2,none⟩ v2) b [v0,v1,v2] t∧w.grownBy (((w.setCell ⟨b,0,none⟩ v0).setCell ⟨b,1,none⟩ v1).setCell ⟨b,2,none⟩ v2) (some b):=
 ⟨((h.set 0 v0).set 1 v1).set 2 v2,zJ (jR _ _ _ _ _ _) (zq _ _ _ _)⟩
theorem Box.store4{w:World}{b:Nat}{a0 a1 a2 a3:Value}{t:TypeId}(h:Box w b [a0,a1,a2,a3] t)(v0 v1 v2 v3:Value) :
  Box ((((w.setCell ⟨b,0,none⟩ v0).setCell ⟨b,1,none⟩ v1).setCell ⟨b,2,none⟩ v2).setCell ⟨b,3,none⟩ v3) b [v0,v1,v2,v3] t∧w.grownBy ((((w.setCell ⟨b,0,none⟩ v0).setCell ⟨b,1,none⟩ v1).setCell ⟨b,2,none⟩ v2).setCell ⟨b,3,none⟩ v3) (some b):=
 ⟨(((h.set 0 v0).set 1 v1).set 2 v2).set 3 v3,zJ (jR _ _ _ _ _ _) (jR _ _ _ _ _ _)⟩
section
variable {P:Program} {ops:Array Oper} {md:Region.Mode} {Q:Exit→Act→World→Prop} {w0:World}
theorem af9{j:Nat}{w:World}{oi oj:Oper}{v:Value}(hj:ops[j]? = some oj)(hap:oi.apart ops oj=true)(hsi:∀cs b,oi.op≠ .select cs b)(hsj:∀cs b,oj.op≠ .select cs b){K:Act→World→Prop}{a:Act}
  (hy:yM P ops w0 oi v a) (h:wpOp P ops QF j K (a.put oi.dst v) w):wpOp P ops QF j (fun a' w'=>yM P ops w0 oi v a'∧K (a'.put oi.dst v) w') a w:=by
 obtain⟨h1,h2,h3⟩:=Oper.apart_spec hap
 have keep:∀u,yM P ops w0 oi v (a.put oj.dst u):=fun u=>
  hy.same (execOp_put oi hsi a oj.dst u h3) (wanted_put oi a oj.dst u h3)
 have keepD:∀(ds:List Deferred) u,yM P ops w0 oi v (({ a with defers:=ds}:Act).put oj.dst u):=fun ds u=>by
  have hy':yM P ops w0 oi v { a with defers:=ds}:=hy.same (by rw[xg]) rfl;exact hy'.same (execOp_put oi hsi _ oj.dst u h3) (wanted_put oi _ oj.dst u h3)
 have comm:∀(b:Act) u,(b.put oj.dst u).put oi.dst v=(b.put oi.dst v).put oj.dst u:=fun b u=>(Act.put_comm b v u h2).symm
 unfold wpOp at *
 simp only[hj] at *
 rw[wanted_put oj a oi.dst v h1] at h
 split
 ·rename_i hw
  simp only[hw,if_true] at h
  rcases h with h|h
  ·left
   unfold Oper.wp at *
   rw[execOp_put oj hsj a oi.dst v h1] at h;generalize(execOp a.eval oj).run P w=r at *
   cases r with
   |ok n w'=>
    cases n<;>simp only[Oper.upon] at h ⊢
    case value u=>exact⟨keep u,by rw[comm];exact h⟩
    case skip=>exact⟨keep _,by rw[comm];exact h⟩
    case defer d=>
     refine⟨keepD _ _,?_⟩;rw[comm];rw[Act.put_defers] at h;exact h
    case enter f args=>
     exact h.mono fun e w'' he=>by
      cases e with
      |returned u=>exact⟨keep u,by rw[comm];exact he⟩
      |panicked c=>exact he
      |outgrown=>exact he
    case row r args=>exact Rows.mono h fun u w'' he=>⟨keep u,by rw[comm];exact he⟩
   |halt x w'=>cases x<;>simp only[Oper.upon] at h ⊢<;>exact h
  ·exact absurd h.2 jQ
 ·rename_i hw
  simp only[hw] at h;exact⟨keep _,by rw[comm];exact h⟩
def wpZ(P:Program)(w0:World)(md:Region.Mode)(ops:Array Oper)(n:Nat)(L:Array Bool→Act→World→Prop):Nat→Array Bool→Act→World→Prop
 | 0,listed,a,w=>L listed a w
 |f+1,listed,a,w=>
  Region.ready md ops listed≠[]∧
  ∀i∈Region.ready md ops listed,i<n∧wpOp P ops QF i (fun a' w'=>Below w0.heap.size w0 w'∧wpZ P w0 md ops n L f (listed.setIfInBounds i true) a' w') a w
theorem xA{n g:Nat}{L:Array Bool→Act→World→Prop}(hL:∀listed a w,L listed a w→wpAny P md ops Q g listed a w) :
  ∀(f:Nat) (listed:Array Bool) (a:Act) (w:World),wpZ P w0 md ops n L f listed a w→wpAny P md ops Q (f+g) listed a w
 | 0,listed,a,w,h=>by rw[Nat.zero_add];exact hL _ _ _ h
 |f+1,listed,a,w,h=>by
  rw[show f+1+g=(f+g)+1 by omega];exact⟨fun h0=>absurd h0 h.1,fun i hi=>abU (wpOp_mono (fun a' w' h'=>xA hL f _ a' w' h'.2) (h.2 i hi).2)⟩
theorem acm{n i:Nat}{oi:Oper}{v:Value}{L:Array Bool→Act→World→Prop}(hi:ops[i]? = some oi)(hsel:∀(j:Nat) (o:Oper) cs b,ops[j]? = some o→o.op≠ .select cs b)
  (hT:qV md ops n) (hin:i<n) (hdone:∀listed a w,L listed a w→∀j∈Region.ready md ops listed,n≤j) :
  ∀(f:Nat) (listed:Array Bool) (a:Act) (w:World),HeadInv md ops n listed→Below w0.heap.size w0 w→
   (∀j oj,ops[j]? = some oj→j≠i→listed.getD j true=false→(∀e∈oj.after,Region.binds md e=true→e.on≠i)→oi.apart ops oj=true)→
   i∈Region.ready md ops listed→yM P ops w0 oi v a→
   wpZ P w0 md ops n L f (listed.setIfInBounds i true) (a.put oi.dst v) w→wpZ P w0 md ops n L (f+1) listed a w:=by
 intro f
 induction f with
 |zero=>
  intro listed a w inv hbw _ hr hy H;have hun:=(mem_ready.1 hr).1;refine⟨fun h=>(by rw[h] at hr;cases hr),fun j hj=>?_⟩
  have hjn:j<n:=by
   rcases Nat.lt_or_ge j n with h|h
   ·exact h
   ·exact absurd hj (hT _ inv i hin hun j h)
  refine⟨hjn,?_⟩
  by_cases hji:j=i
  ·subst hji;exact(hy.later hbw).wpOp hi ⟨hbw,H⟩
  ·have:=hdone _ _ _ H j (ready_mono hj hji)
   omega
 |succ f ih=>
  intro listed a w inv hbw hfree hr hy H;have hun:=(mem_ready.1 hr).1;refine⟨fun h=>(by rw[h] at hr;cases hr),fun j hj=>?_⟩
  have hjn:j<n:=by
   rcases Nat.lt_or_ge j n with h|h
   ·exact h
   ·exact absurd hj (hT _ inv i hin hun j h)
  refine⟨hjn,?_⟩
  by_cases hji:j=i
  ·subst hji;exact(hy.later hbw).wpOp hi ⟨hbw,H⟩
  ·have h1:=(H.2 j (ready_mono hj hji)).2
   obtain⟨hjun,oj,hoj,hall⟩:=mem_ready.1 hj
   have hnot:∀e∈oj.after,Region.binds md e=true→e.on≠i:=fun e he hb heq=>by
    have h1:=hall e he hb;rw[heq,getD_both hun] at h1
    cases h1
   have h2:=af9 hoj (hfree j oj hoj hji hjun hnot) (fun cs b=>hsel i oi cs b hi) (fun cs b=>hsel j oj cs b hoj) hy h1
   have hfree':∀k ok,ops[k]? = some ok→k≠i→(listed.setIfInBounds j true).getD k true=false→
     (∀e∈ok.after,Region.binds md e=true→e.on≠i)→oi.apart ops ok=true:=fun k ok hk hki hun hno=>by
    refine hfree k ok hk hki ?_ hno
    by_cases hjk:j=k
    ·subst hjk;exact hjun
    ·rw[getD_set_ne true hjk] at hun;exact hun
   refine wpOp_mono (fun a' w' h3=>⟨h3.2.1,ih (listed.setIfInBounds j true) a' w' (inv.set hj hjn) h3.2.1 hfree' (ready_mono hr (Ne.symm hji)) h3.1 ?_⟩) h2;rw[Array.setIfInBounds_comm _ _ hji];exact h3.2.2
def RZ(P:Program)(w0:World)(ops:Array Oper)(Q:Exit→Act→World→Prop)(n f:Nat)(listed:Array Bool)(a:Act)(w:World):Prop:=
 Below w0.heap.size w0 w→qV .any ops n→Region.noSelect ops=true→HeadInv .any ops n listed→
  wpZ P w0 .any ops n (fun listed' a' w'=>(∀j∈Region.ready .any ops listed',n≤j)∧wpAny P .any ops Q (ops.size-n) listed' a' w') f listed a w
theorem RZ.chunk{n f:Nat}:∀(idx:List Nat) {listed:Array Bool} {a:Act} {w:World},Region.chunkB ops n idx listed=true→
  wpQuiet P ops (fun w'=>∃x:zk w0,w'=x.W) (fun a'=>RZ P w0 ops Q n f (jh idx listed) a' w) (zo ops idx) a→RZ P w0 ops Q n (f+idx.length) listed a w
 |[],listed,a,w,_,h=>h
 |i::r,listed,a,w,hB,h=>by
  intro hbw hT hsel inv;simp only[Region.chunkB,Bool.and_eq_true,decide_eq_true_eq] at hB;obtain⟨⟨⟨⟨hr,hf⟩,hin⟩,hp⟩,hB'⟩:=hB;have hr':i∈Region.ready .any ops listed:=by simpa using hr
  obtain⟨_,o,ho,_⟩:=mem_ready.1 hr';rw[ho] at hp;have hp':kg o.op=true:=by simpa using hp
  have hpk:zo ops (i::r)=o::zo ops r:=by unfold zo;rw[List.filterMap_cons,ho]
  rw[hpk] at h
  have hst:qOp P ops (fun w'=>∃x:zk w0,w'=x.W) i (wpQuiet P ops (fun w'=>∃x:zk w0,w'=x.W) (fun a'=>RZ P w0 ops Q n f (jh (i::r) listed) a' w) (zo ops r)) a:=by
   unfold qOp;simp only[ho];exact h
  obtain⟨v,hy,hK⟩:=yieldsIn_of_qOp ho hst
  have hrest:yM P ops w0 o v a:=by
   rcases hy with⟨h1,h2⟩|⟨h1,h2⟩
   ·refine .inl ⟨h1,fun w' hb=>?_⟩
    have h3:=h2 w' ⟨⟨w',hb⟩,rfl⟩;unfold Oper.quietAt at h3
    cases hrun:(execOp a.eval o).run P w' with
    |ok nx w''=>
     obtain⟨u,rfl⟩:=kj hp' hrun;rw[hrun] at h3;obtain⟨e1,e2⟩:=h3;rw[e1,e2]
    |halt x w''=>rw[hrun] at h3;exact h3.elim
   ·exact .inr ⟨h1,h2⟩
  have hrec:=RZ.chunk (f:=f) r hB' hK hbw hT hsel (inv.set hr' hin);exact acm ho (Region.noSelect_spec hsel) hT hin (fun _ _ _ hL=>hL.1) _ listed a w inv hbw (Region.free_spec ho hf) hr' hrest hrec
theorem RZ.single{n f:Nat}{listed:Array Bool}{a:Act}{w:World}(i:Nat){o:Oper}(ho:ops[i]? = some o)(hr:Region.ready .any ops listed=[i])(hin:i<n)
  (h:∀K:Act→World→Prop,(∀a' w',Below w0.heap.size w0 w'→RZ P w0 ops Q n f (listed.setIfInBounds i true) a' w'→K a' w')→wpList P ops (Exit.then K QF) [o] a w):RZ P w0 ops Q n (f+1) listed a w:=by
 intro hbw hT hsel inv;refine⟨fun h0=>(by rw[hr] at h0;cases h0),fun j hj=>?_⟩;rw[hr] at hj;have hji:j=i:=by simpa using hj
 subst hji;refine⟨hin,?_⟩;have h1:=h (fun a' w'=>Below w0.heap.size w0 w'∧wpZ P w0 .any ops n (fun listed' a' w'=>(∀j∈Region.ready .any ops listed',n≤j)∧wpAny P .any ops Q (ops.size-n) listed' a' w') f (listed.setIfInBounds j true) a' w') (fun a' w' hb h'=>⟨hb,h' hb hT hsel (inv.set (by rw[hr];simp) hin)⟩);unfold wpOp;simp only[ho];simp only[wpList] at h1
 split
 ·rename_i hw
  simp only[hw,if_true] at h1
  rcases h1 with h1|h1
  ·left
   unfold Oper.wp at *
   generalize(execOp a.eval o).run P w=r at *
   cases r with
   |ok nx w'=>
    cases nx<;>simp only[Oper.upon,Exit.then] at h1 ⊢<;>exact h1
   |halt x w'=>cases x<;>simp only[Oper.upon,Exit.then] at h1 ⊢<;>exact h1
  ·obtain⟨_,_,_,h⟩:=h1;exact h.elim
 ·rename_i hw
  simp only[hw] at h1;exact h1
theorem RZ.both{n f:Nat}{listed:Array Bool}{a:Act}{w:World}(i j:Nat){oi oj:Oper}(hi:ops[i]? = some oi)(hj:ops[j]? = some oj)(hr:Region.ready .any ops listed=[i,j])(hin:i<n)(hjn:j<n)
  (h1:∀K:Act→World→Prop,(∀a' w',Below w0.heap.size w0 w'→RZ P w0 ops Q n f (listed.setIfInBounds i true) a' w'→K a' w')→wpList P ops (Exit.then K QF) [oi] a w)
  (h2:∀K:Act→World→Prop,(∀a' w',Below w0.heap.size w0 w'→RZ P w0 ops Q n f (listed.setIfInBounds j true) a' w'→K a' w')→wpList P ops (Exit.then K QF) [oj] a w):RZ P w0 ops Q n (f+1) listed a w:=by
 intro hbw hT hsel inv
 have key:∀(k:Nat) (o:Oper),ops[k]? = some o→k∈Region.ready .any ops listed→k<n→
   (∀K:Act→World→Prop,(∀a' w',Below w0.heap.size w0 w'→RZ P w0 ops Q n f (listed.setIfInBounds k true) a' w'→K a' w')→wpList P ops (Exit.then K QF) [o] a w)→
   wpOp P ops QF k (fun a' w'=>Below w0.heap.size w0 w'∧wpZ P w0 .any ops n (fun listed' a' w'=>(∀j∈Region.ready .any ops listed',n≤j)∧wpAny P .any ops Q (ops.size-n) listed' a' w') f (listed.setIfInBounds k true) a' w') a w:=by
  intro k o ho hk hkn h;have h1:=h (fun a' w'=>Below w0.heap.size w0 w'∧wpZ P w0 .any ops n (fun listed' a' w'=>(∀j∈Region.ready .any ops listed',n≤j)∧wpAny P .any ops Q (ops.size-n) listed' a' w') f (listed.setIfInBounds k true) a' w') (fun a' w' hb h'=>⟨hb,h' hb hT hsel (inv.set hk hkn)⟩);unfold wpOp;simp only[ho];simp only[wpList] at h1
  split
  ·rename_i hw
   simp only[hw,if_true] at h1
   rcases h1 with h1|h1
   ·left
    unfold Oper.wp at *
    generalize(execOp a.eval o).run P w=r at *
    cases r with
    |ok nx w'=>
     cases nx<;>simp only[Oper.upon,Exit.then] at h1 ⊢<;>exact h1
    |halt x w'=>cases x<;>simp only[Oper.upon,Exit.then] at h1 ⊢<;>exact h1
   ·obtain⟨_,_,_,h⟩:=h1;exact h.elim
  ·rename_i hw
   simp only[hw] at h1;exact h1
 refine⟨fun h0=>(by rw[hr] at h0;cases h0),fun k hk=>?_⟩;have hk':=hk;rw[hr] at hk';simp only[List.mem_cons,List.not_mem_nil,or_false] at hk'
 rcases hk' with rfl|rfl
 ·exact⟨hin,key _ _ hi hk hin h1⟩
 ·exact⟨hjn,key _ _ hj hk hjn h2⟩
theorem RZ.tail{l:List Oper}{n:Nat}{listed:Array Bool}{a:Act}{w:World}(hB:Region.seqB .any l.toArray (l.length-n) n listed=true)(h:wpList P l.toArray Q (l.drop n) a w):RZ P w0 l.toArray Q n 0 listed a w:=by
 intro hbw hT hsel inv;refine⟨seqB_ready hB,?_⟩;have hdl:(l.drop n).length=l.toArray.size-n:=by simp
 have:=wpAny_of_seq (md:= .any) (Q':=Q) (l.drop n) n listed a w (fun j=>by simp[List.getElem?_drop]) (by rw[hdl];simpa using hB) h;rwa[hdl] at this
theorem RZ.done{n:Nat}{listed:Array Bool}{a:Act}{w:World}(hn:ops.size-n=0)(hB:Region.ready .any ops listed=[])(h:Q .normal a w):RZ P w0 ops Q n 0 listed a w:=by
 intro hbw hT hsel inv;refine⟨fun j hj=>(by rw[hB] at hj;cases hj),?_⟩;rw[hn];exact⟨hB,h⟩
theorem zt{id:Nat}{a:Act}{w:World}{l:List Oper}(n:Nat)(hm:P.follows .mixedOrders=true)(hB:Region.regB l.toArray n=true)
  (h:RZ P w.drew l.toArray Q n n (Array.replicate l.length false) a w.drew):(Code.region id l.toArray true).wp P Q a w:=by
 simp only[Region.regB,Bool.and_eq_true] at hB;have hT:=qV.of hB.2
 have hn:n≤l.length:=by
  have:=hB.2;simp only[Bool.or_eq_true,Bool.and_eq_true,decide_eq_true_eq] at this
  rcases this with h|⟨⟨h,_⟩,_⟩
  ·simp at h;omega
  ·simp at h;omega
 have inv0:HeadInv .any l.toArray n (Array.replicate l.length false):=
  ⟨by simp,fun j oj _ hl=>(by rw[getD_replicate_false] at hl;cases hl),fun t _ ht=>getD_in (by simpa using ht) (getD_replicate_false _ _)⟩
 refine wp_region_any hm ?_;have:=xA (Q:=Q) (g:=l.toArray.size-n) (fun listed a' w' hL=>hL.2) _ _ _ _ (h (Below.refl _ _) hT hB.1 inv0);rw[show n+(l.toArray.size-n)=l.toArray.size by simp;omega] at this
 simpa using this
end
theorem jS{P:Program}{ops:Array Oper}{C:World→Prop}{Q:Act→Prop}{Q':Exit→Act→World→Prop}(hQ:∀a w,C w→Q a→Q' .normal a w) :
  ∀(l:List Oper) (a:Act) (w:World),C w→wpQuiet P ops C Q l a→wpList P ops Q' l a w
 |[],a,w,hw,h=>hQ a w hw h
 |o::rest,a,w,hw,h=>by
  unfold wpQuiet at h;unfold wpList
  split
  ·rename_i hh
   rw[if_pos hh] at h;exact Or.inl (Oper.wp_of_quiet hw (fun a w' hw' hk=>jS hQ rest a w' hw' hk) h)
  ·rename_i hh
   rw[if_neg hh] at h;exact jS hQ rest _ w hw h
theorem zr{P:Program}{id:Nat}{Q:Exit→Act→World→Prop}{a:Act}{w:World}{l:List Oper}
  (h:wpQuiet P l.toArray (fun w'=>∃x:zk w,w'=x.W) (fun a'=>∀w',(∃x:zk w,w'=x.W)→Q .normal a' w') l a):(Code.region id l.toArray false).wp P Q a w:=
 wp_region_lit (jS (fun _ w' hw' h=>h w' hw') l a w ⟨⟨w,Below.refl _ _⟩,rfl⟩ h)
theorem aaS{α:Type}{cells:α→List Value}{size:Nat}(hsz:∀x,(cells x).length=size)(hp:0<size):∀(l:List α) (j:Nat) (u:Value),(l.flatMap cells)[j]? = some u→∃i r x,j=i*size+r∧r<size∧l[i]? = some x∧(cells x)[r]? = some u
 |[],j,u,h=>by simp at h
 |y::l,j,u,h=>by
  rw[List.flatMap_cons] at h
  rcases Nat.lt_or_ge j size with hj|hj
  ·rw[List.getElem?_append_left (by rw[hsz];exact hj)] at h
   exact⟨0,j,y,by omega,hj,rfl,h⟩
  ·rw[List.getElem?_append_right (by rw[hsz];exact hj),hsz] at h
   obtain⟨i,r,x,h1,h2,h3,h4⟩:=aaS hsz hp l (j-size) u h;exact⟨i+1,r,x,by rw[Nat.succ_mul];omega,h2,by simpa using h3,h4⟩
theorem xB{α:Type}{cells:α→List Value}{size:Nat}(hsz:∀x,(cells x).length=size):∀(l:List α) (i:Nat) (hi:i<l.length) (j:Nat) (u:Value),(cells l[i])[j]? = some u→(l.flatMap cells)[i*size+j]? = some u
 |[],i,hi,j,u,h=>by simp at hi
 |z::r,0,hi,j,u,h=>by
  have hj:j<(cells z).length:=(List.getElem?_eq_some_iff.1 h).1;rw[Nat.zero_mul,Nat.zero_add,List.flatMap_cons,List.getElem?_append_left hj];exact h
 |z::r,i+1,hi,j,u,h=>by
  rw[List.flatMap_cons,List.getElem?_append_right (by rw[hsz,Nat.succ_mul];omega),hsz];have e2:(i+1)*size+j-size=i*size+j:=by rw[Nat.succ_mul];omega
  rw[e2];exact xB hsz r i (by simpa using hi) j u (by simpa using h)
section
variable {α:Type} {L:Lay α} {cells:α→List Value} {size base:Nat} {e:TypeId} {w w':World} {v:Value} {l:List α}
theorem Sl.news{ad:Addr}(hL:∀x vs,L.rep w x vs→vs=cells x)(hs:L.size=size)(hc:yk cells size)(hp:0<size)(h:Sl L w (some ad) l):∀j u,(l.flatMap cells)[j]? = some u→w.cell? (ad.add j)=some u:=by
 intro j u hj;obtain⟨i,r,x,h1,h2,h3,h4⟩:=aaS hc.len hp l j u hj;obtain⟨b,o,vs,e,hlt,hr,hcell⟩:=h i x h3;obtain rfl:ad=⟨b,o,none⟩:=by injection e
 obtain rfl:=hL x vs hr;have:=hcell r u h4;rw[hs] at this;rw[jH,h1,←Nat.add_assoc];exact this
theorem Sl.none_nil(h:Sl L w none l):l=[]:=by
 cases l with
 |nil=>rfl
 |cons x l=>obtain⟨b,o,vs,e,_⟩:=h 0 x rfl;cases e
theorem aa5{P:Program}(t ty e:TypeId)(i:TypeInfo)(size c:Nat)(ht:P.underlying t=some (.slice e))(hi:P.info? e=some i)
  (v:Value) (n:Nat) (xs:List Value) (hown:w.ownsRow base e size v n xs) :
  (Builtin.append_ #[t,t] ty #[v,.slice none 0 c]).run P w = .ok v w:=by
 rcases hown.2 with⟨rfl,rfl⟩|⟨g,cap,cur,rfl,_,_,hnc,_⟩
 ·simp[Builtin.append_,run_underlying ht,sizeOf,typeInfo,hi,Builtin.lenOf,Builtin.firstCells]
 ·simp[Builtin.append_,run_underlying ht,sizeOf,typeInfo,hi,Builtin.lenOf,Builtin.firstCells,hnc,storeCells]
theorem qX{P:Program}{t:TypeId}{bytes:Nat}{z:Value}(T:qc P t e size bytes z)(hc:yk cells size)(ty:TypeId)(hown:Own cells size base e w v l){A:Option Addr}{c:Nat}{l2:List α}
  (hL:∀x vs,L.rep w x vs→vs=cells x) (hs:L.size=size) (h2:Sl L w A l2) (h63:l.length+l2.length≤maxLen) (hbytes:(l.length+l2.length)*bytes≤140737488355328) (hbase:base≤w.heap.size) :
  ∃v' w',(Builtin.append_ #[t,t] ty #[v,.slice A l2.length c]).run P w = .ok v' w'∧Own cells size base e w' v' (l++l2)∧Below base w w'∧w.grownBy w' v.ownBlock∧w.heap.size≤w'.heap.size:=by
 obtain⟨i,hi,hz,hsz,hby⟩:=info_parts T.info
 cases A with
 |none=>
  obtain rfl:=h2.none_nil;refine⟨v,w,aa5 t ty e i size c T.under hi v l.length (l.flatMap cells) hown,by rw[List.append_nil];exact hown,Below.refl _ _,⟨rfl,rfl,rfl,Nat.le_refl _,fun _ _ _=>rfl⟩,Nat.le_refl _⟩
 |some ad=>
  have hlen:(l2.flatMap cells).length=l2.length*size:=by
   clear h2 h63 hbytes
   induction l2 with
   |nil=>simp
   |cons x l2 ih=>rw[List.flatMap_cons,List.length_append,ih,hc.len,List.length_cons,Nat.succ_mul];omega
  obtain⟨v',w',hr,ho,hg,_,_⟩:=run_append_own_at (P:=P) w base t ty e i z size bytes T.under hi hz hsz hby T.zero T.pos v l.length (l.flatMap cells) hown ad l2.length c (l2.flatMap cells) hlen
   (h2.news hL hs hc T.pos) (fun u hu=>by
    obtain⟨x,_,hx⟩:=List.mem_flatMap.1 hu;exact hc.one x u hx) h63 hbytes hbase
  refine⟨v',w',hr,?_,(Below.refl _ _).grown hg hbase fun k hk=>(hown.lt k hk).1,hg,hg.size⟩;unfold Own;rw[List.flatMap_append,List.length_append];exact ho
theorem ag7{P:Program}{t:TypeId}{bytes:Nat}{z:Value}(T:qc P t e size bytes z)(hc:yk cells size)(ty:TypeId)(hown:Own cells size base e w v l)(y:α)(g c:Nat)
  (hy:∀j u,(cells y)[j]? = some u→w.cell? ⟨g,j,none⟩=some u) (h63:l.length+1≤maxLen) (hbytes:(l.length+1)*bytes≤140737488355328) (hbase:base≤w.heap.size) :
  ∃v' w',(Builtin.append_ #[t,t] ty #[v,.slice (some ⟨g,0,none⟩) 1 c]).run P w = .ok v' w'∧Own cells size base e w' v' (l++[y])∧Below base w w'∧w.grownBy w' v.ownBlock∧w.heap.size≤w'.heap.size:=by
 obtain⟨i,hi,hz,hsz,hby⟩:=info_parts T.info
 obtain⟨v',w',hr,ho,hg,_,_⟩:=run_append_own_at (P:=P) w base t ty e i z size bytes T.under hi hz hsz hby T.zero T.pos v l.length (l.flatMap cells) hown ⟨g,0,none⟩ 1 c (cells y)
  (by rw[hc.len,Nat.one_mul]) (fun j u hu=>by rw[jH,Nat.zero_add];exact hy j u hu) (hc.one y) h63 hbytes hbase
 refine⟨v',w',hr,?_,(Below.refl _ _).grown hg hbase fun k hk=>(hown.lt k hk).1,hg,hg.size⟩;unfold Own;rw[List.flatMap_append,List.length_append,List.flatMap_singleton];exact ho
theorem yJ{P:Program}{ops:Array Oper}{rest:List Oper}{o:Oper}{a:Act}{Q:Exit→Act→World→Prop}(hgd:o.guard=none)(s x:Operand)(t:TypeId)
  (ho:o.op = .call { callee:= .builtin .append,args:=#[s,x],argTypes:=#[t,t]}) {u v':Value} (hs:a.eval s=v) (hx:a.eval x=u) (hrun:(Builtin.append_ #[t,t] o.type #[v,u]).run P w = .ok v' w')
  (h:wpList P ops Q rest (a.put o.dst v') w'):wpList P ops Q (o::rest) a w:=by
 refine wpList_plain hgd fun K hK=>?_
 unfold Oper.wp
 simp[execOp,ho,resolve,invoke,builtin,hs,hx,hrun,Result.andThen]
 exact hK _ _ h
theorem Own.kept{row:Option Nat}(h:Own cells size base e w v l)(hg:w.grownBy w' row)(hne:∀b,row=some b→v.ownBlock≠some b):Own cells size base e w' v l:=by
 refine World.ownsRow.kept h hg ?_
 cases hv:v.ownBlock with
 |none=>exact Or.inl rfl
 |some g=>exact Or.inr fun h=>hne g h.symm (hv▸rfl)
theorem Own.slR{β:Type}{M:Lay β}{k:List β}(h:Own cells size base e w v l)(hc:yk cells size)(hs:M.size=size)(hl:l.length=k.length)(hr:∀(i:Nat) x y,l[i]? = some x→k[i]? = some y→M.rep w y (cells x)) :
  ∃A c,v = .slice A k.length c∧k.length≤c∧Sl M w A k:=by
 subst hs
 rcases h.2 with⟨rfl,h0⟩|⟨g,cap,cur,rfl,hbg,hh,hcap,_⟩
 ·have:k=[]:=List.eq_nil_of_length_eq_zero (by omega)
  subst this;exact⟨none,0,rfl,Nat.le_refl _,Sl.nil⟩
 ·refine⟨_,cap,by rw[hl],by omega,fun i y hy=>?_⟩
  have hi:i<l.length:=by have:=(List.getElem?_eq_some_iff.1 hy).1;omega
  have hx:=List.getElem?_eq_getElem hi;have hlt:g<w.heap.size:=(Array.getElem?_eq_some_iff.1 hh).1;refine⟨g,0,cells l[i],rfl,hlt,hr i _ y hx hy,fun j u hj=>?_⟩;have hcell:=World.ownsRow.cells h (g:=g) rfl (i*M.size+j) u;rw[jH] at hcell;rw[Nat.add_assoc];exact hcell (xB hc.len l i hi j u hj)
end
section
variable {P:Program} {ops:Array Oper} {md:Region.Mode} {Q:Exit→Act→World→Prop} {w0 w1:World}
theorem RZ.at{n f:Nat}{listed:Array Bool}{a:Act}{w:World}(i:Nat)(hr:Region.ready .any ops listed=[i])(hin:i<n)
  (h:∀K:Act→World→Prop,(∀a' w',Below w0.heap.size w0 w'→RZ P w0 ops Q n f (listed.setIfInBounds i true) a' w'→K a' w')→wpList P ops (Exit.then K QF) (zo ops [i]) a w):RZ P w0 ops Q n (f+1) listed a w:=by
 obtain⟨_,o,ho,_⟩:=mem_ready.1 (show i∈Region.ready .any ops listed by rw[hr];simp);refine RZ.single i ho hr hin ?_;have hp:zo ops [i]=[o]:=by unfold zo;rw[List.filterMap_cons,ho];rfl
 rw[hp] at h;exact h
end
theorem aac{P:Program}{Q:Exit→Act→World→Prop}{w0:World}{id:Nat}{a:Act}{w:World}{l:List Oper}(n:Nat)(hm:P.follows .mixedOrders=true)(hB:Region.regB l.toArray n=true)(hb:Below w0.heap.size w0 w.drew)
  (h:RZ P w0 l.toArray Q n n (Array.replicate l.length false) a w.drew):(Code.region id l.toArray true).wp P Q a w:=by
 simp only[Region.regB,Bool.and_eq_true] at hB;have hT:=qV.of hB.2
 have hn:n≤l.length:=by
  have:=hB.2;simp only[Bool.or_eq_true,Bool.and_eq_true,decide_eq_true_eq] at this
  rcases this with h|⟨⟨h,_⟩,_⟩
  ·simp at h;omega
  ·simp at h;omega
 have inv0:HeadInv .any l.toArray n (Array.replicate l.length false):=
  ⟨by simp,fun j oj _ hl=>(by rw[getD_replicate_false] at hl;cases hl),fun t _ ht=>getD_in (by simpa using ht) (getD_replicate_false _ _)⟩
 refine wp_region_any hm ?_;have:=xA (Q:=Q) (g:=l.toArray.size-n) (fun listed a' w' hL=>hL.2) _ _ _ _ (h hb hT hB.1 inv0);rw[show n+(l.toArray.size-n)=l.toArray.size by simp;omega] at this
 simpa using this
structure Held(S:World→Prop) where
 W:World
 h:S W
section
variable {P:Program} {ops:Array Oper} {S:World→Prop} {Q:Exit→Act→World→Prop}
def qB(P:Program)(ops:Array Oper)(S:World→Prop)(o:Oper)(v:Value)(a:Act):Prop:=
 (Region.wanted o (yielded ops a.tmps)=true∧∀w',S w'→(execOp a.eval o).run P w' = .ok (.value v) w')∨
 (Region.wanted o (yielded ops a.tmps)=false∧v=undef)
theorem qB.wpOp{i:Nat}{w:World}{o:Oper}{v:Value}{a:Act}(h:qB P ops S o v a)(hi:ops[i]? = some o)(hw0:S w){K:Act→World→Prop}(hK:K (a.put o.dst v) w):wpOp P ops Q i K a w:=by
 unfold Go.wpOp;simp only[hi]
 rcases h with⟨hw,h2⟩|⟨hw,rfl⟩
 ·simp only[hw,if_true]
  left
  unfold Oper.wp;rw[h2 w hw0];exact hK
 ·simp only[hw,Bool.false_eq_true,if_false];exact hK
theorem qB.same{o:Oper}{v:Value}{a a':Act}(hy:qB P ops S o v a)(he:execOp a'.eval o=execOp a.eval o)
  (hw:Region.wanted o (yielded ops a'.tmps)=Region.wanted o (yielded ops a.tmps)):qB P ops S o v a':=by
 unfold qB at *
 rw[he,hw];exact hy
end
section
variable {P:Program} {ops:Array Oper} {md:Region.Mode} {Q:Exit→Act→World→Prop} {S:World→Prop}
theorem aga{j:Nat}{w:World}{oi oj:Oper}{v:Value}(hj:ops[j]? = some oj)(hap:oi.apart ops oj=true)(hsi:∀cs b,oi.op≠ .select cs b)(hsj:∀cs b,oj.op≠ .select cs b){K:Act→World→Prop}{a:Act}
  (hy:qB P ops S oi v a) (h:wpOp P ops QF j K (a.put oi.dst v) w):wpOp P ops QF j (fun a' w'=>qB P ops S oi v a'∧K (a'.put oi.dst v) w') a w:=by
 obtain⟨h1,h2,h3⟩:=Oper.apart_spec hap
 have keep:∀u,qB P ops S oi v (a.put oj.dst u):=fun u=>
  hy.same (execOp_put oi hsi a oj.dst u h3) (wanted_put oi a oj.dst u h3)
 have keepD:∀(ds:List Deferred) u,qB P ops S oi v (({ a with defers:=ds}:Act).put oj.dst u):=fun ds u=>by
  have hy':qB P ops S oi v { a with defers:=ds}:=hy.same (by rw[xg]) rfl;exact hy'.same (execOp_put oi hsi _ oj.dst u h3) (wanted_put oi _ oj.dst u h3)
 have comm:∀(b:Act) u,(b.put oj.dst u).put oi.dst v=(b.put oi.dst v).put oj.dst u:=fun b u=>(Act.put_comm b v u h2).symm
 unfold wpOp at *
 simp only[hj] at *
 rw[wanted_put oj a oi.dst v h1] at h
 split
 ·rename_i hw
  simp only[hw,if_true] at h
  rcases h with h|h
  ·left
   unfold Oper.wp at *
   rw[execOp_put oj hsj a oi.dst v h1] at h;generalize(execOp a.eval oj).run P w=r at *
   cases r with
   |ok n w'=>
    cases n<;>simp only[Oper.upon] at h ⊢
    case value u=>exact⟨keep u,by rw[comm];exact h⟩
    case skip=>exact⟨keep _,by rw[comm];exact h⟩
    case defer d=>
     refine⟨keepD _ _,?_⟩;rw[comm];rw[Act.put_defers] at h;exact h
    case enter f args=>
     exact h.mono fun e w'' he=>by
      cases e with
      |returned u=>exact⟨keep u,by rw[comm];exact he⟩
      |panicked c=>exact he
      |outgrown=>exact he
    case row r args=>exact Rows.mono h fun u w'' he=>⟨keep u,by rw[comm];exact he⟩
   |halt x w'=>cases x<;>simp only[Oper.upon] at h ⊢<;>exact h
  ·exact absurd h.2 jQ
 ·rename_i hw
  simp only[hw] at h;exact⟨keep _,by rw[comm];exact h⟩
def wpC(P:Program)(S:World→Prop)(md:Region.Mode)(ops:Array Oper)(n:Nat)(L:Array Bool→Act→World→Prop):Nat→Array Bool→Act→World→Prop
 | 0,listed,a,w=>L listed a w
 |f+1,listed,a,w=>
  Region.ready md ops listed≠[]∧
  ∀i∈Region.ready md ops listed,i<n∧wpOp P ops QF i (fun a' w'=>S w'∧wpC P S md ops n L f (listed.setIfInBounds i true) a' w') a w
theorem abj{n g:Nat}{L:Array Bool→Act→World→Prop}(hL:∀listed a w,L listed a w→wpAny P md ops Q g listed a w) :
  ∀(f:Nat) (listed:Array Bool) (a:Act) (w:World),wpC P S md ops n L f listed a w→wpAny P md ops Q (f+g) listed a w
 | 0,listed,a,w,h=>by rw[Nat.zero_add];exact hL _ _ _ h
 |f+1,listed,a,w,h=>by
  rw[show f+1+g=(f+g)+1 by omega];exact⟨fun h0=>absurd h0 h.1,fun i hi=>abU (wpOp_mono (fun a' w' h'=>abj hL f _ a' w' h'.2) (h.2 i hi).2)⟩
theorem acn{n i:Nat}{oi:Oper}{v:Value}{L:Array Bool→Act→World→Prop}(hi:ops[i]? = some oi)(hsel:∀(j:Nat) (o:Oper) cs b,ops[j]? = some o→o.op≠ .select cs b)
  (hT:qV md ops n) (hin:i<n) (hdone:∀listed a w,L listed a w→∀j∈Region.ready md ops listed,n≤j) :
  ∀(f:Nat) (listed:Array Bool) (a:Act) (w:World),HeadInv md ops n listed→S w→
   (∀j oj,ops[j]? = some oj→j≠i→listed.getD j true=false→(∀e∈oj.after,Region.binds md e=true→e.on≠i)→oi.apart ops oj=true)→
   i∈Region.ready md ops listed→qB P ops S oi v a→
   wpC P S md ops n L f (listed.setIfInBounds i true) (a.put oi.dst v) w→wpC P S md ops n L (f+1) listed a w:=by
 intro f
 induction f with
 |zero=>
  intro listed a w inv hbw _ hr hy H;have hun:=(mem_ready.1 hr).1;refine⟨fun h=>(by rw[h] at hr;cases hr),fun j hj=>?_⟩
  have hjn:j<n:=by
   rcases Nat.lt_or_ge j n with h|h
   ·exact h
   ·exact absurd hj (hT _ inv i hin hun j h)
  refine⟨hjn,?_⟩
  by_cases hji:j=i
  ·subst hji;exact hy.wpOp hi hbw ⟨hbw,H⟩
  ·have:=hdone _ _ _ H j (ready_mono hj hji)
   omega
 |succ f ih=>
  intro listed a w inv hbw hfree hr hy H;have hun:=(mem_ready.1 hr).1;refine⟨fun h=>(by rw[h] at hr;cases hr),fun j hj=>?_⟩
  have hjn:j<n:=by
   rcases Nat.lt_or_ge j n with h|h
   ·exact h
   ·exact absurd hj (hT _ inv i hin hun j h)
  refine⟨hjn,?_⟩
  by_cases hji:j=i
  ·subst hji;exact hy.wpOp hi hbw ⟨hbw,H⟩
  ·have h1:=(H.2 j (ready_mono hj hji)).2
   obtain⟨hjun,oj,hoj,hall⟩:=mem_ready.1 hj
   have hnot:∀e∈oj.after,Region.binds md e=true→e.on≠i:=fun e he hb heq=>by
    have h1:=hall e he hb;rw[heq,getD_both hun] at h1
    cases h1
   have h2:=aga hoj (hfree j oj hoj hji hjun hnot) (fun cs b=>hsel i oi cs b hi) (fun cs b=>hsel j oj cs b hoj) hy h1
   have hfree':∀k ok,ops[k]? = some ok→k≠i→(listed.setIfInBounds j true).getD k true=false→
     (∀e∈ok.after,Region.binds md e=true→e.on≠i)→oi.apart ops ok=true:=fun k ok hk hki hun hno=>by
    refine hfree k ok hk hki ?_ hno
    by_cases hjk:j=k
    ·subst hjk;exact hjun
    ·rw[getD_set_ne true hjk] at hun;exact hun
   refine wpOp_mono (fun a' w' h3=>⟨h3.2.1,ih (listed.setIfInBounds j true) a' w' (inv.set hj hjn) h3.2.1 hfree' (ready_mono hr (Ne.symm hji)) h3.1 ?_⟩) h2;rw[Array.setIfInBounds_comm _ _ hji];exact h3.2.2
def RC(P:Program)(S:World→Prop)(ops:Array Oper)(Q:Exit→Act→World→Prop)(n f:Nat)(listed:Array Bool)(a:Act)(w:World):Prop:=
 S w→qV .any ops n→Region.noSelect ops=true→HeadInv .any ops n listed→
  wpC P S .any ops n (fun listed' a' w'=>(∀j∈Region.ready .any ops listed',n≤j)∧wpAny P .any ops Q (ops.size-n) listed' a' w') f listed a w
theorem RC.chunk{n f:Nat}:∀(idx:List Nat) {listed:Array Bool} {a:Act} {w:World},Region.chunkB ops n idx listed=true→
  wpQuiet P ops (fun w'=>∃x:Held S,w'=x.W) (fun a'=>RC P S ops Q n f (jh idx listed) a' w) (zo ops idx) a→RC P S ops Q n (f+idx.length) listed a w
 |[],listed,a,w,_,h=>h
 |i::r,listed,a,w,hB,h=>by
  intro hbw hT hsel inv;simp only[Region.chunkB,Bool.and_eq_true,decide_eq_true_eq] at hB;obtain⟨⟨⟨⟨hr,hf⟩,hin⟩,hp⟩,hB'⟩:=hB;have hr':i∈Region.ready .any ops listed:=by simpa using hr
  obtain⟨_,o,ho,_⟩:=mem_ready.1 hr';rw[ho] at hp;have hp':kg o.op=true:=by simpa using hp
  have hpk:zo ops (i::r)=o::zo ops r:=by unfold zo;rw[List.filterMap_cons,ho]
  rw[hpk] at h
  have hst:qOp P ops (fun w'=>∃x:Held S,w'=x.W) i (wpQuiet P ops (fun w'=>∃x:Held S,w'=x.W) (fun a'=>RC P S ops Q n f (jh (i::r) listed) a' w) (zo ops r)) a:=by
   unfold qOp;simp only[ho];exact h
  obtain⟨v,hy,hK⟩:=yieldsIn_of_qOp ho hst
  have hrest:qB P ops S o v a:=by
   rcases hy with⟨h1,h2⟩|⟨h1,h2⟩
   ·refine .inl ⟨h1,fun w' hb=>?_⟩
    have h3:=h2 w' ⟨⟨w',hb⟩,rfl⟩;unfold Oper.quietAt at h3
    cases hrun:(execOp a.eval o).run P w' with
    |ok nx w''=>
     obtain⟨u,rfl⟩:=kj hp' hrun;rw[hrun] at h3;obtain⟨e1,e2⟩:=h3;rw[e1,e2]
    |halt x w''=>rw[hrun] at h3;exact h3.elim
   ·exact .inr ⟨h1,h2⟩
  have hrec:=RC.chunk (f:=f) r hB' hK hbw hT hsel (inv.set hr' hin);exact acn ho (Region.noSelect_spec hsel) hT hin (fun _ _ _ hL=>hL.1) _ listed a w inv hbw (Region.free_spec ho hf) hr' hrest hrec
theorem RC.single{n f:Nat}{listed:Array Bool}{a:Act}{w:World}(i:Nat){o:Oper}(ho:ops[i]? = some o)(hr:Region.ready .any ops listed=[i])(hin:i<n)
  (h:∀K:Act→World→Prop,(∀a' w',S w'→RC P S ops Q n f (listed.setIfInBounds i true) a' w'→K a' w')→wpList P ops (Exit.then K QF) [o] a w):RC P S ops Q n (f+1) listed a w:=by
 intro hbw hT hsel inv;refine⟨fun h0=>(by rw[hr] at h0;cases h0),fun j hj=>?_⟩;rw[hr] at hj;have hji:j=i:=by simpa using hj
 subst hji;refine⟨hin,?_⟩;have h1:=h (fun a' w'=>S w'∧wpC P S .any ops n (fun listed' a' w'=>(∀j∈Region.ready .any ops listed',n≤j)∧wpAny P .any ops Q (ops.size-n) listed' a' w') f (listed.setIfInBounds j true) a' w') (fun a' w' hb h'=>⟨hb,h' hb hT hsel (inv.set (by rw[hr];simp) hin)⟩);unfold wpOp;simp only[ho];simp only[wpList] at h1
 split
 ·rename_i hw
  simp only[hw,if_true] at h1
  rcases h1 with h1|h1
  ·left
   unfold Oper.wp at *
   generalize(execOp a.eval o).run P w=r at *
   cases r with
   |ok nx w'=>
    cases nx<;>simp only[Oper.upon,Exit.then] at h1 ⊢<;>exact h1
   |halt x w'=>cases x<;>simp only[Oper.upon,Exit.then] at h1 ⊢<;>exact h1
  ·obtain⟨_,_,_,h⟩:=h1;exact h.elim
 ·rename_i hw
  simp only[hw] at h1;exact h1
theorem RC.both{n f:Nat}{listed:Array Bool}{a:Act}{w:World}(i j:Nat){oi oj:Oper}(hi:ops[i]? = some oi)(hj:ops[j]? = some oj)(hr:Region.ready .any ops listed=[i,j])(hin:i<n)(hjn:j<n)
  (h1:∀K:Act→World→Prop,(∀a' w',S w'→RC P S ops Q n f (listed.setIfInBounds i true) a' w'→K a' w')→wpList P ops (Exit.then K QF) [oi] a w)
  (h2:∀K:Act→World→Prop,(∀a' w',S w'→RC P S ops Q n f (listed.setIfInBounds j true) a' w'→K a' w')→wpList P ops (Exit.then K QF) [oj] a w):RC P S ops Q n (f+1) listed a w:=by
 intro hbw hT hsel inv
 have key:∀(k:Nat) (o:Oper),ops[k]? = some o→k∈Region.ready .any ops listed→k<n→
   (∀K:Act→World→Prop,(∀a' w',S w'→RC P S ops Q n f (listed.setIfInBounds k true) a' w'→K a' w')→wpList P ops (Exit.then K QF) [o] a w)→
   wpOp P ops QF k (fun a' w'=>S w'∧wpC P S .any ops n (fun listed' a' w'=>(∀j∈Region.ready .any ops listed',n≤j)∧wpAny P .any ops Q (ops.size-n) listed' a' w') f (listed.setIfInBounds k true) a' w') a w:=by
  intro k o ho hk hkn h;have h1:=h (fun a' w'=>S w'∧wpC P S .any ops n (fun listed' a' w'=>(∀j∈Region.ready .any ops listed',n≤j)∧wpAny P .any ops Q (ops.size-n) listed' a' w') f (listed.setIfInBounds k true) a' w') (fun a' w' hb h'=>⟨hb,h' hb hT hsel (inv.set hk hkn)⟩);unfold wpOp;simp only[ho];simp only[wpList] at h1
  split
  ·rename_i hw
   simp only[hw,if_true] at h1
   rcases h1 with h1|h1
   ·left
    unfold Oper.wp at *
    generalize(execOp a.eval o).run P w=r at *
    cases r with
    |ok nx w'=>
     cases nx<;>simp only[Oper.upon,Exit.then] at h1 ⊢<;>exact h1
    |halt x w'=>cases x<;>simp only[Oper.upon,Exit.then] at h1 ⊢<;>exact h1
   ·obtain⟨_,_,_,h⟩:=h1;exact h.elim
  ·rename_i hw
   simp only[hw] at h1;exact h1
 refine⟨fun h0=>(by rw[hr] at h0;cases h0),fun k hk=>?_⟩;have hk':=hk;rw[hr] at hk';simp only[List.mem_cons,List.not_mem_nil,or_false] at hk'
 rcases hk' with rfl|rfl
 ·exact⟨hin,key _ _ hi hk hin h1⟩
 ·exact⟨hjn,key _ _ hj hk hjn h2⟩
theorem RC.tail{l:List Oper}{n:Nat}{listed:Array Bool}{a:Act}{w:World}(hB:Region.seqB .any l.toArray (l.length-n) n listed=true)(h:wpList P l.toArray Q (l.drop n) a w):RC P S l.toArray Q n 0 listed a w:=by
 intro hbw hT hsel inv;refine⟨seqB_ready hB,?_⟩;have hdl:(l.drop n).length=l.toArray.size-n:=by simp
 have:=wpAny_of_seq (md:= .any) (Q':=Q) (l.drop n) n listed a w (fun j=>by simp[List.getElem?_drop]) (by rw[hdl];simpa using hB) h;rwa[hdl] at this
theorem RC.done{n:Nat}{listed:Array Bool}{a:Act}{w:World}(hn:ops.size-n=0)(hB:Region.ready .any ops listed=[])(h:Q .normal a w):RC P S ops Q n 0 listed a w:=by
 intro hbw hT hsel inv;refine⟨fun j hj=>(by rw[hB] at hj;cases hj),?_⟩;rw[hn];exact⟨hB,h⟩
theorem ji{id:Nat}{a:Act}{w:World}{l:List Oper}(n:Nat)(hm:P.follows .mixedOrders=true)(h0:S w.drew)(hB:Region.regB l.toArray n=true)
  (h:RC P S l.toArray Q n n (Array.replicate l.length false) a w.drew):(Code.region id l.toArray true).wp P Q a w:=by
 simp only[Region.regB,Bool.and_eq_true] at hB;have hT:=qV.of hB.2
 have hn:n≤l.length:=by
  have:=hB.2;simp only[Bool.or_eq_true,Bool.and_eq_true,decide_eq_true_eq] at this
  rcases this with h|⟨⟨h,_⟩,_⟩
  ·simp at h;omega
  ·simp at h;omega
 have inv0:HeadInv .any l.toArray n (Array.replicate l.length false):=
  ⟨by simp,fun j oj _ hl=>(by rw[getD_replicate_false] at hl;cases hl),fun t _ ht=>getD_in (by simpa using ht) (getD_replicate_false _ _)⟩
 refine wp_region_any hm ?_;have:=abj (Q:=Q) (g:=l.toArray.size-n) (fun listed a' w' hL=>hL.2) _ _ _ _ (h h0 hT hB.1 inv0);rw[show n+(l.toArray.size-n)=l.toArray.size by simp;omega] at this
 simpa using this
end
def abk:Op→Bool
 |.nilCheck _=>true
 |o=>kg o
theorem aah{o:Oper}(ho:abk o.op=true){ρ:Operand→Value}{P:Program}{w w':World}{n:Next}(h:(execOp ρ o).run P w = .ok n w'):∃u,n = .value u:=by
 cases hop:o.op
 case nilCheck x=>
  unfold execOp at h;rw[hop] at h;simp only at h
  repeat' split at h
  all_goals first|(simp at h;exact⟨_,h.1.symm⟩)|(exfalso;revert h;simp[runtimePanic];done)|skip
  simp only[Sem.run_bind] at h;generalize Sem.run P program w=r1 at h
  cases r1 with
  |halt x w1=>simp[Result.andThen] at h
  |ok a w1=>
   simp only[Result.andThen] at h;generalize Sem.run P (nilAhead _ _ _ _) w1=r2 at h
   cases r2 with
   |halt x w2=>simp at h
   |ok b w2=>
    simp only at h
    split at h
    ·simp[unsupported] at h
    ·simp at h
     exact⟨_,h.1.symm⟩
 all_goals exact kj (by rw[hop] at ho ⊢;exact ho) h
def Region.chunkN(ops:Array Oper)(n:Nat):List Nat→Array Bool→Bool
 |[],_=>true
 |i::r,listed=>(Region.ready .any ops listed).contains i&&Region.free .any ops listed i&&decide (i<n)&&((ops[i]?).map fun o=>abk o.op).getD false&&Region.chunkN ops n r (listed.setIfInBounds i true)
section
variable {P:Program} {ops:Array Oper} {Q:Exit→Act→World→Prop} {w0:World}
theorem RZ.chunkN{n f:Nat}:∀(idx:List Nat) {listed:Array Bool} {a:Act} {w:World},Region.chunkN ops n idx listed=true→
  wpQuiet P ops (fun w'=>∃x:zk w0,w'=x.W) (fun a'=>RZ P w0 ops Q n f (jh idx listed) a' w) (zo ops idx) a→RZ P w0 ops Q n (f+idx.length) listed a w
 |[],listed,a,w,_,h=>h
 |i::r,listed,a,w,hB,h=>by
  intro hbw hT hsel inv;simp only[Region.chunkN,Bool.and_eq_true,decide_eq_true_eq] at hB;obtain⟨⟨⟨⟨hr,hf⟩,hin⟩,hp⟩,hB'⟩:=hB;have hr':i∈Region.ready .any ops listed:=by simpa using hr
  obtain⟨_,o,ho,_⟩:=mem_ready.1 hr';rw[ho] at hp;have hp':abk o.op=true:=by simpa using hp
  have hpk:zo ops (i::r)=o::zo ops r:=by unfold zo;rw[List.filterMap_cons,ho]
  rw[hpk] at h
  have hst:qOp P ops (fun w'=>∃x:zk w0,w'=x.W) i (wpQuiet P ops (fun w'=>∃x:zk w0,w'=x.W) (fun a'=>RZ P w0 ops Q n f (jh (i::r) listed) a' w) (zo ops r)) a:=by
   unfold qOp;simp only[ho];exact h
  obtain⟨v,hy,hK⟩:=yieldsIn_of_qOp ho hst
  have hrest:yM P ops w0 o v a:=by
   rcases hy with⟨h1,h2⟩|⟨h1,h2⟩
   ·refine .inl ⟨h1,fun w' hb=>?_⟩
    have h3:=h2 w' ⟨⟨w',hb⟩,rfl⟩;unfold Oper.quietAt at h3
    cases hrun:(execOp a.eval o).run P w' with
    |ok nx w''=>
     obtain⟨u,rfl⟩:=aah hp' hrun;rw[hrun] at h3;obtain⟨e1,e2⟩:=h3;rw[e1,e2]
    |halt x w''=>rw[hrun] at h3;exact h3.elim
   ·exact .inr ⟨h1,h2⟩
  have hrec:=RZ.chunkN (f:=f) r hB' hK hbw hT hsel (inv.set hr' hin);exact acm ho (Region.noSelect_spec hsel) hT hin (fun _ _ _ hL=>hL.1) _ listed a w inv hbw (Region.free_spec ho hf) hr' hrest hrec
end
section
variable {P:Program} {ops:Array Oper} {Q:Exit→Act→World→Prop} {S:World→Prop}
theorem RC.chunkN{n f:Nat}:∀(idx:List Nat) {listed:Array Bool} {a:Act} {w:World},Region.chunkN ops n idx listed=true→
  wpQuiet P ops (fun w'=>∃x:Held S,w'=x.W) (fun a'=>RC P S ops Q n f (jh idx listed) a' w) (zo ops idx) a→RC P S ops Q n (f+idx.length) listed a w
 |[],listed,a,w,_,h=>h
 |i::r,listed,a,w,hB,h=>by
  intro hbw hT hsel inv;simp only[Region.chunkN,Bool.and_eq_true,decide_eq_true_eq] at hB;obtain⟨⟨⟨⟨hr,hf⟩,hin⟩,hp⟩,hB'⟩:=hB;have hr':i∈Region.ready .any ops listed:=by simpa using hr
  obtain⟨_,o,ho,_⟩:=mem_ready.1 hr';rw[ho] at hp;have hp':abk o.op=true:=by simpa using hp
  have hpk:zo ops (i::r)=o::zo ops r:=by unfold zo;rw[List.filterMap_cons,ho]
  rw[hpk] at h
  have hst:qOp P ops (fun w'=>∃x:Held S,w'=x.W) i (wpQuiet P ops (fun w'=>∃x:Held S,w'=x.W) (fun a'=>RC P S ops Q n f (jh (i::r) listed) a' w) (zo ops r)) a:=by
   unfold qOp;simp only[ho];exact h
  obtain⟨v,hy,hK⟩:=yieldsIn_of_qOp ho hst
  have hrest:qB P ops S o v a:=by
   rcases hy with⟨h1,h2⟩|⟨h1,h2⟩
   ·refine .inl ⟨h1,fun w' hb=>?_⟩
    have h3:=h2 w' ⟨⟨w',hb⟩,rfl⟩;unfold Oper.quietAt at h3
    cases hrun:(execOp a.eval o).run P w' with
    |ok nx w''=>
     obtain⟨u,rfl⟩:=aah hp' hrun;rw[hrun] at h3;obtain⟨e1,e2⟩:=h3;rw[e1,e2]
    |halt x w''=>rw[hrun] at h3;exact h3.elim
   ·exact .inr ⟨h1,h2⟩
  have hrec:=RC.chunkN (f:=f) r hB' hK hbw hT hsel (inv.set hr' hin);exact acn ho (Region.noSelect_spec hsel) hT hin (fun _ _ _ hL=>hL.1) _ listed a w inv hbw (Region.free_spec ho hf) hr' hrest hrec
end
theorem v9h{p:Prop}(h:p):RowKit.Hid p:=h
theorem v9r{n:Nat}{w:World}:Below n w w:=Below.refl _ _
end Go.Proofs.YtmhdambkchlilaaGreatDoor
