/- Maps from numbers to lists of numbers, made by the call: 'm[k] = append(m[k], v)'. It holds no statement about the program. Chapter 10: the classes below a class. Chapter 10: Subs and Targets. -/
import Derived.Maps.OwnRows
import Derived.Maps.GroupsBeside
import Derived.Test.YtmhdambkchlilaaGreatDoorJGa
import Derived.Test.YtmhdambkchlilaaGreatDoorJGh
namespace Go.Proofs.YtmhdambkchlilaaGreatDoor
open Go.RowKit Go.ChangeShapes Go.WideElems
open Go.RowKit
set_option linter.unusedVariables false
def jC(P:Program)(k e:TypeId)(w:World)(base b n:Nat)(f:Int→List Int):Prop:=
 ∃D:DataW Unit,Maps.IsMap D∧w.ownsGroups P k base e .i64 b n D∧∀x,qL x→(D.atKey (.int .i64 x) .nil = .nil∧f x=[])∨D.atKey (.int .i64 x) .nil = .slice (lits .i64 (f x)) []
section
variable {P:Program} {t k E e:TypeId} {w w':World} {base b n:Nat} {f:Int→List Int}
theorem jC.made(w:World){b:Nat}(hb:w.heap.size=b):jC P k e (w.alloc (.map #[] 0)) (b+1) b 0 (fun _=>[]):=by
 subst hb;exact⟨.map [],Maps.isMap_empty,World.ownsGroups_made w P k e .i64,fun x _=>Or.inl ⟨rfl,rfl⟩⟩
theorem jC.lt(h:jC P k e w base b n f):b<w.heap.size∧b<base:=by
 obtain⟨D,_,⟨es,clock,hb,_,_,_,hbb,_⟩,_⟩:=h;exact⟨(Array.getElem?_eq_some_iff.1 hb).1,hbb⟩
theorem jC.mono(h:jC P k e w base b n f)(hb:Below w.heap.size w w'):jC P k e w' base b n f:=by
 obtain⟨D,h1,h2,h3⟩:=h;exact⟨D,h1,h2.kept (row:=none) ⟨hb.os,hb.tape,hb.output,hb.size,fun k hk _=>hb.block k hk⟩ (by simp) (fun es clock _ x _=>by cases x.val.ownBlock<;>simp),h3⟩
theorem ahl{a b:List Int}(h:lits (H:=Unit) .i64 a=lits .i64 b):a=b:=by
 unfold lits at h
 induction a generalizing b with
 |nil=>cases b with
  |nil=>rfl
  |cons y r=>simp at h
 |cons x q ih=>cases b with
  |nil=>simp at h
  |cons y r=>
   simp only[List.map_cons,List.cons.injEq] at h;obtain⟨h1,h2⟩:=h;injection h1 with h1
   injection h1 with _ h1
   rw[h1,ih h2]
theorem jC.at(h:jC P k e w base b n f)(K:Maps.Keyed P k)(hk:P.underlying k=some (.int .i64))(ht:P.underlying t=some (.map k E))(hz:∀w,(zeroValue E).run P w = .ok (.slice none 0 0) w)(hn:n<maxLen){x:Int}(hx:qL x) :
  ∃v,(Instr.lookup t (.map (some b)) (.int .i64 x) false).run P w = .ok v w∧w.ownsInts base e .i64 v (f x)∧(f x).length≤n∧
   ∀(w1:World) (v':Value) (y:Int),qL y→w.grownBy w1 v.ownBlock→w1.ownsInts base e .i64 v' (f x++[y])→(v'.ownBlock=v.ownBlock∨∃g,v'.ownBlock=some g∧w.heap.size≤g)→
    ∃w2,(Instr.mapUpdate t (.map (some b)) (.int .i64 x) v').run P w1 = .ok () w2∧jC P k e w2 base b (n+1) (fun z=>if z=x then f x++[y] else f z)∧w1.grownBy w2 (some b):=by
 obtain⟨D,h1,h2,h3⟩:=h;have hkey:=Maps.keyOf_int_mk (P:=P) hk hx;obtain⟨v,zs,hrun,hat,hoi,hzl,hback⟩:=h2.at K ht (hz w) hn hkey
 have hzs:zs=f x:=by
  rcases h3 x hx with⟨e1,e2⟩|e1
  ·rcases hoi.datum (H:=Unit) with⟨e3,e4⟩|e3
   ·rw[e4,e2]
   ·rw[hat,e3] at e1;cases e1
  ·rcases hoi.datum (H:=Unit) with⟨e3,e4⟩|e3
   ·rw[hat,e3] at e1;cases e1
   ·rw[hat,e3] at e1
    injection e1 with e1
    exact ahl e1
 subst hzs;refine⟨v,hrun,hoi,hzl,fun w1 v' y hy hg ho hloc=>?_⟩;obtain⟨w2,hr2,ho2,hg2⟩:=hback w1 v' (f x++[y]) hg ho (by simp;omega) hloc;refine⟨w2,hr2,⟨_,h1.put _ _,ho2,fun z hz'=>?_⟩,hg2⟩
 by_cases ez:z=x
 ·subst ez
  right
  rw[Maps.atKey_put_same h1 (K.key hkey),ho.datum_pos (by simp)]
  simp
 ·have hne:Lit.int .i64 z≠Lit.int .i64 x:=fun h=>ez (by injection h)
  rw[Maps.atKey_put_other hne];simp only[if_neg ez];exact h3 z hz'
end
theorem adY{w:World}{base:Nat}{e:TypeId}{v:Value}{zs:List Int}(h:w.ownsInts base e .i64 v zs):Own yh 1 base e w v zs:=by
 have:=h.1;unfold Own;rw[show zs.flatMap yh=zs.map (Value.int .i64) from xf (c:=fun x=>Value.int .i64 x) zs];exact this
structure xw(n:Nat)(l:List Int):Prop where
 bd:∀x∈l,0≤x∧x<(n:Int)
 nd:l.Nodup
theorem xw.len{n:Nat}{l:List Int}(h:xw n l):l.length≤n:=xD h.nd h.bd
theorem xw.snoc{n:Nat}{l:List Int}{x:Int}(h:xw n l)(hx:0≤x∧x<(n:Int))(hn:x∉l):xw n (l++[x]):=by
 refine⟨fun y hy=>?_,?_⟩
 ·rcases List.mem_append.1 hy with hy|hy
  ·exact h.bd y hy
  ·simp at hy;subst hy;exact hx
 ·rw[List.nodup_append]
  refine⟨h.nd,by simp,fun a ha b hb=>?_⟩
  simp at hb;subst hb
  intro e;subst e;exact hn ha
theorem ahm:Maps.Keyed Tryz.prog 3:=Maps.int_keyed Tryz.underlying3
theorem ain(w:World):(zeroValue 57).run Tryz.prog w = .ok (.slice none 0 0) w:=by kernel_rfl
theorem jC.look{w:World}{base b n:Nat}{f:Int→List Int}(h:jC Tryz.prog 3 3 w base b n f)(hn:n<maxLen){x:Int}(hx:qL x) :
  ∃v,(Instr.lookup 122 (.map (some b)) (.int .i64 x) false).run Tryz.prog w = .ok v w∧jr w v (f x):=by
 obtain⟨v,h1,h2,_⟩:=h.at ahm Tryz.underlying3 Tryz.underlying122 ain hn hx;exact⟨v,h1,jr.of_own (adY h2)⟩
end Go.Proofs.YtmhdambkchlilaaGreatDoor
