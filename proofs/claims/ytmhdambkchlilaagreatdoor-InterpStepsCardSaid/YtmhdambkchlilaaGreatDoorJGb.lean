/- slices.Sort, slices.Compact, slices.Clone at []string on slices that the call owns; ascending lists of strings. A string in its place in an ascending list, once. Plain mathematics. slices.Sort and slices.Compact at []int on slices that the call owns; ascending lists of numbers. slices.Sort and slices.Compact at []int: no other old block turns. -/
import Derived.Sort.OwnSorted
import Derived.Lib.RowBridge
import Derived.Sort.OwnSortedInts
import Derived.Test.YtmhdambkchlilaaGreatDoorJGa
import Derived.Test.YtmhdambkchlilaaGreatDoorJShelf
namespace Go.Proofs.YtmhdambkchlilaaGreatDoor
open Go.RowKit Go.Sort
set_option linter.unusedVariables false
def toL(s:ByteArray):List UInt8:=s.data.toList
def ofL(l:List UInt8):ByteArray:=⟨l.toArray⟩
theorem aeZ(s:ByteArray):ofL (toL s)=s:=rfl
theorem aic(l:List UInt8):toL (ofL l)=l:=rfl
theorem abV{a b:ByteArray}(h:toL a=toL b):a=b:=by rw[←aeZ a,h,aeZ]
theorem age{a b c:List UInt8}(h1:a<b)(h2:b<c):a<c:=List.lt_trans h1 h2
theorem xC(a:List UInt8):¬a<a:=List.lt_irrefl a
theorem ads:∀{l m:List (List UInt8)},l.Pairwise (· < ·)→m.Pairwise (· < ·)→(∀x,x∈l↔x∈m)→l=m
 |[],[],_,_,_=>rfl
 |[],b::m,_,_,h=>by have:=(h b).2 (by simp);simp at this
 |a::l,[],_,_,h=>by have:=(h a).1 (by simp);simp at this
 |a::l,b::m,hl,hm,h=>by
  rw[List.pairwise_cons] at hl hm
  have hab:a=b:=by
   have h1:=(h a).1 (by simp);have h2:=(h b).2 (by simp);simp only[List.mem_cons] at h1 h2
   rcases h1 with h1|h1
   ·exact h1
   ·rcases h2 with h2|h2
    ·exact h2.symm
    ·exact absurd (age (hm.1 a h1) (hl.1 b h2)) (xC _)
  subst hab
  congr 1
  refine ads hl.2 hm.2 fun x=>?_
  have hx:=h x;simp only[List.mem_cons] at hx
  constructor
  ·intro h1
   rcases hx.1 (Or.inr h1) with h2|h2
   ·subst h2;exact absurd (hl.1 _ h1) (xC _)
   ·exact h2
  ·intro h1
   rcases hx.2 (Or.inr h1) with h2|h2
   ·subst h2;exact absurd (hm.1 _ h1) (xC _)
   ·exact h2
theorem aaT(l:List ByteArray):(l.map toL).map ofL=l:=by rw[List.map_map];exact List.map_id l
theorem aaU{l:List ByteArray}{x:ByteArray}:toL x∈l.map toL↔x∈l:=by
 rw[List.mem_map]
 constructor
 ·rintro⟨y,hy,e⟩;rw[←abV e];exact hy
 ·intro h;exact⟨x,h,rfl⟩
def AscS(l:List ByteArray):Prop:=l.Pairwise fun a b=>toL a<toL b
theorem AscS.ext{l m:List ByteArray}(h1:AscS l)(h2:AscS m)(h:∀x,x∈l↔x∈m):l=m:=by
 rw[←aaT l,←aaT m]
 congr 1
 refine ads (List.pairwise_map.2 h1) (List.pairwise_map.2 h2) fun x=>?_
 have:=h (ofL x);rw[←aaU,←aaU,aic] at this;exact this
def yd(x:ByteArray):List Value:=[.string x]
theorem yA:yk yd 1:=⟨fun _=>rfl,fun _ u hu=>by simp[yd] at hu;subst hu;rfl⟩
theorem ks:qc Tryz.prog 34 9 1 16 (.string ByteArray.empty):=⟨Tryz.underlying34,by kernel_rfl,rfl,by omega⟩
def qN(w:World)(v:Value)(l:List ByteArray):Prop:=∃A c,v = .slice A l.length c∧l.length≤c∧Sl Lay.str w A l
theorem qN.of_own{base:Nat}{e:TypeId}{w:World}{v:Value}{l:List ByteArray}(h:Own yd 1 base e w v l):qN w v l:=Own.sl (L:=Lay.str) h rfl fun _=>rfl
theorem qN.mono{w w':World}{v:Value}{l:List ByteArray}(h:qN w v l)(hb:Below w.heap.size w w'):qN w' v l:=by
 obtain⟨A,c,e,hc,hs⟩:=h;exact⟨A,c,e,hc,hs.mono hb⟩
end Go.Proofs.YtmhdambkchlilaaGreatDoor
