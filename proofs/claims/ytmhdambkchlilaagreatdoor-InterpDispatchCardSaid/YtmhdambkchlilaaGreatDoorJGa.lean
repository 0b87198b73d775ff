/- A library of plain words for walks: later worlds, regions whose order is open, slices that read as lists. It holds no statement about the program. From the reading of an argument to its layout: combinators, one for each kind of type. From the reading of an argument to its layout, with the form's own reach: combinators, one for each kind of type. Blocks of the call's own whose cells are known. It holds no statement about the program. Regions that draw their order and hold calls that make memory and hand back what lies in it: quiet operations are taken first, a call when nothing else is ready. It holds no statement about the program. Regions that draw their order, once more (XReg): here each operation leaves what lay in the heap when the region began, and may write what the region itself has made. It holds no statement about the program. Rows whose elements hold slices themselves: appending whole slices, boxes beside rows, the layout out of raw cells. It holds no statement about the program. Maps that the call itself makes, as functions from keys to optional values. It holds no statement about the program. Maps keyed by strings. It holds no statement about the program. Regions that do not draw, walked by the quick quiet steps: each operation reads or calls a function that hands back one value. A drawn region that goes on in a world of its own making (plain). A drawn region whose writes may hit what was made earlier in the call (plain). Regions that draw their order, once more (XReg, XRegZ): here each operation leaves a world of a class that the proof names. It holds no statement about the program. Drawn regions: nil checks among the quiet operations (a chunk as in Reg, RegZ). It holds no statement about the program. Drawn regions: nil checks among the quiet operations (RegN), in worlds of a class (RegC). It holds no statement about the program. -/
import Derived.WalkKit
import Derived.WalkSpells
import Derived.WalkLawsBesides
import Derived.Deep.QuietTactic
import Derived.BigQuiet
import Derived.StillTail
import Derived.Lib.Hide
import Derived.Deep.AppendLies
import Derived.Maps.AppendAt
import Derived.Deep.DeepMust
import Derived.ProofKit
import Derived.Deep.Slices
import Derived.Deep.Fields
import Derived.Deep.DeepCutAuto
import Derived.Deep.CutBlock
import Derived.Laws.OwnMore
import Derived.Maps.OwnOps
import Derived.Maps.OwnSet
import Derived.Maps.Views
import Derived.Deep.Strs
namespace Go.Proofs.YtmhdambkchlilaaGreatDoor
open Go.RowKit
open Go.RowKit Go.ChangeShapes Go.WideShapes Go.Deep
set_option linter.unusedVariables false
structure Later (w : World) where
 W : World
 h : Below w.heap.size w W
theorem below_step {w w1 w2 : World} (h : Below w.heap.size w w1) (k : Below w1.heap.size w1 w2) : Below w.heap.size w w2 := h.trans (k.mono h.size)
theorem below_drewN {B : Nat} {a w : World} (h : Below B a w) (n : Nat) : Below B a (w.drewN n) := ⟨h.os,h.tape,h.output,h.size,h.block⟩
theorem bw_alloc {w W : World} {o : Obj} (h : Below w.heap.size w W) : Below w.heap.size w (W.alloc o) := h.alloc h.size o
theorem bw_drew {w W : World} (h : Below w.heap.size w W) : Below w.heap.size w W.drew := h.drew
theorem bw_drewN {w W : World} {n : Nat} (h : Below w.heap.size w W) : Below w.heap.size w (W.drewN n) := below_drewN h n
theorem bw_later {w W : World} {x : Later W} (h : Below w.heap.size w W) : Below w.heap.size w x.W := below_step h x.h
theorem bw_step {w W W' : World} (k : Below W.heap.size W W') (h : Below w.heap.size w W) : Below w.heap.size w W' := below_step h k
def Later.here (w : World) : Later w := ⟨w,Below.refl _ _⟩
instance Later.some (w : World) : Nonempty (Later w) := ⟨Later.here w⟩
def Later.next {w : World} (x : Later w) {w' : World} (h : Below x.W.heap.size x.W w') : Later w := ⟨w',below_step x.h h⟩
section
variable {w : World} (x : Later w)
@[go_sem] theorem Later.cell {b o : Nat} {s : Option Nat} (h : b < w.heap.size) : x.W.cell? ⟨b,o,s⟩ = w.cell? ⟨b,o,s⟩ := x.h.cell (p := ⟨b,o,s⟩) h
@[go_sem] theorem Later.frozen {b o : Nat} {s : Option Nat} (h : b < w.heap.size) : x.W.frozen? ⟨b,o,s⟩ = w.frozen? ⟨b,o,s⟩ := x.h.frozen (p := ⟨b,o,s⟩) h
end
theorem Calls.later {P : Program} {f : FuncId} {args : Array Value} {w : World} {x : Later w} {v : Value}
  (h : Calls P f args x.W fun e w' => e = .returned v ∧ Below x.W.heap.size x.W w') : Calls P f args x.W fun e w'' => e = .returned v ∧ ∃ y : Later w,w'' = y.W :=
 h.mono fun _ _ ⟨he,hb⟩ => ⟨he,x.next hb,rfl⟩
theorem Calls.later_same {P : Program} {f : FuncId} {args : Array Value} {w : World} {x : Later w} {v : Value}
  (h : Calls P f args x.W fun e w' => e = .returned v ∧ x.W = w') : Calls P f args x.W fun e w'' => e = .returned v ∧ ∃ y : Later w,w'' = y.W :=
 h.mono fun _ _ ⟨he,hb⟩ => ⟨he,x,hb.symm⟩
theorem wp_region_later {P : Program} {id : Nat} {Q : Exit → Act → World → Prop} {a : Act} {w : World} {l : List Oper} (hm : P.follows .mixedOrders = true) (hB : Region.lexB .any l.toArray = true)
  (h : wpQuiet P l.toArray (fun w' => ∃ x : Later w,w' = x.W) (fun a' => ∀ w',(∃ x : Later w,w' = x.W) → Q .normal a' w') l a) : (Code.region id l.toArray true).wp P Q a w :=
 wp_region_quiet (C := fun w' => ∃ x : Later w,w' = x.W) hm hB ⟨⟨w.drew,(Below.refl _ _).drew⟩,rfl⟩ (by simpa using h)
section
variable {P : Program} {ops : Array Oper} {md : Region.Mode} {C : World → Prop}
def wpAnyT (P : Program) (md : Region.Mode) (ops : Array Oper) (C : World → Prop) (n : Nat) (L : Array Bool → Act → Prop) : Nat → Array Bool → Act → Prop
 | 0,listed,a => L listed a
 | f + 1,listed,a =>
  Region.ready md ops listed ≠ [] ∧ ∀ i ∈ Region.ready md ops listed,i < n ∧ qOp P ops C i (wpAnyT P md ops C n L f (listed.setIfInBounds i true)) a
theorem wpAny_of_headT {n g : Nat} {L : Array Bool → Act → Prop} {Q' : Exit → Act → World → Prop} (hL : ∀ listed a w,C w → L listed a → wpAny P md ops Q' g listed a w) :
  ∀ (f : Nat) (listed : Array Bool) (a : Act) (w : World),C w → wpAnyT P md ops C n L f listed a → wpAny P md ops Q' (f + g) listed a w
 | 0,listed,a,w,hw,h => by rw [Nat.zero_add]; exact hL _ _ _ hw h
 | f + 1,listed,a,w,hw,h => by
  rw [show f + 1 + g = (f + g) + 1 by omega]
  exact ⟨fun h0 => absurd h0 h.1,fun i hi => wpOp_of_qOp hw (fun a' w' hw' h' => wpAny_of_headT hL f _ a' w' hw' h') (h.2 i hi).2⟩
theorem wpAnyT_first {n i : Nat} {oi : Oper} {v : Value} {L : Array Bool → Act → Prop} (hi : ops[i]? = some oi) (hsel : ∀ (j : Nat) (o : Oper) cs b,ops[j]? = some o → o.op ≠ .select cs b)
  (hs : Region.sinkB md ops n = true) (hc : Region.chainB md ops n = true) (hn : n < ops.size) (hin : i < n)
  (hdone : ∀ listed a,L listed a → ∀ j ∈ Region.ready md ops listed,n ≤ j) :
  ∀ (f : Nat) (listed : Array Bool) (a : Act),HeadInv md ops n listed →
   (∀ j oj,ops[j]? = some oj → j ≠ i → listed.getD j true = false → (∀ e ∈ oj.after,Region.binds md e = true → e.on ≠ i) → oi.apart ops oj = true) →
   i ∈ Region.ready md ops listed → YieldsIn P ops C oi v a →
   wpAnyT P md ops C n L f (listed.setIfInBounds i true) (a.put oi.dst v) → wpAnyT P md ops C n L (f + 1) listed a := by
 intro f
 induction f with
 | zero =>
  intro listed a inv _ hr hy H
  have hun := (mem_ready.1 hr).1
  refine ⟨fun h => (by rw [h] at hr; cases hr),fun j hj => ?_⟩
  have hjn : j < n := by
   rcases Nat.lt_or_ge j n with h | h
   ·exact h
   ·exact absurd hj (tail_waits hs hc hn inv _ i rfl hin hun j h)
  refine ⟨hjn,?_⟩
  by_cases hji : j = i
  ·subst hji; exact hy.qOp hi H
  ·have := hdone _ _ H j (ready_mono hj hji)
   omega
 | succ f ih =>
  intro listed a inv hfree hr hy H
  have hun := (mem_ready.1 hr).1
  refine ⟨fun h => (by rw [h] at hr; cases hr),fun j hj => ?_⟩
  have hjn : j < n := by
   rcases Nat.lt_or_ge j n with h | h
   ·exact h
   ·exact absurd hj (tail_waits hs hc hn inv _ i rfl hin hun j h)
  refine ⟨hjn,?_⟩
  by_cases hji : j = i
  ·subst hji; exact hy.qOp hi H
  ·have h1 := (H.2 j (ready_mono hj hji)).2
   obtain ⟨hjun,oj,hoj,hall⟩ := mem_ready.1 hj
   have hnot : ∀ e ∈ oj.after,Region.binds md e = true → e.on ≠ i := fun e he hb heq => by
    have h1 := hall e he hb
    rw [heq,getD_both hun] at h1
    cases h1
   have h2 := qOp_put hoj (hfree j oj hoj hji hjun hnot) (fun cs b => hsel i oi cs b hi) (fun cs b => hsel j oj cs b hoj) hy h1
   have hfree' : ∀ k ok,ops[k]? = some ok → k ≠ i → (listed.setIfInBounds j true).getD k true = false →
     (∀ e ∈ ok.after,Region.binds md e = true → e.on ≠ i) → oi.apart ops ok = true := fun k ok hk hki hun hno => by
    refine hfree k ok hk hki ?_ hno
    by_cases hjk : j = k
    ·subst hjk; exact hjun
    ·rw [getD_set_ne true hjk] at hun; exact hun
   refine qOp_mono (fun a' h3 => ih (listed.setIfInBounds j true) a' (inv.set hj hjn) hfree' (ready_mono hr (Ne.symm hji)) h3.1 ?_) h2
   rw [Array.setIfInBounds_comm _ _ hji]
   exact h3.2
theorem wpAnyT_lex {n g : Nat} {Lq : Act → Prop} (hsel : Region.noSelect ops = true) (hs : Region.sinkB md ops n = true) (hc : Region.chainB md ops n = true) (hn : n < ops.size) :
  ∀ (l : List Oper) (k : Nat) (listed : Array Bool) (a : Act),(∀ j,j < l.length → l[j]? = ops[k + j]?) → k + l.length = n → HeadInv md ops n listed →
  Region.lexHead md ops g l.length k listed = true → wpQuiet P ops C Lq l a →
  wpAnyT P md ops C n (fun listed' a' => Region.seqB md ops g n listed' = true ∧ Lq a') l.length listed a
 | [],k,listed,a,_,hk,_,hB,h => by
  have : k = n := by simpa using hk
  subst this
  exact ⟨by simpa [Region.lexHead] using hB,h⟩
 | o :: l,k,listed,a,hl,hk,inv,hB,h => by
  have h0 : ops[k]? = some o := by simpa using (hl 0 (by simp)).symm
  simp only [List.length_cons,Region.lexHead,Bool.and_eq_true] at hB
  obtain ⟨⟨hr,hf⟩,hB'⟩ := hB
  have hkn : k < n := by simp only [List.length_cons] at hk; omega
  have hr' : k ∈ Region.ready md ops listed := by simpa using hr
  have hst : qOp P ops C k (wpQuiet P ops C Lq l) a := by unfold qOp; simp only [h0]; exact h
  obtain ⟨v,hy,hK⟩ := yieldsIn_of_qOp h0 hst
  exact wpAnyT_first h0 (Region.noSelect_spec hsel) hs hc hn hkn (fun listed' a' hL => seqB_ready hL.1) l.length listed a inv (Region.free_spec h0 hf) hr' hy
   (wpAnyT_lex hsel hs hc hn l (k + 1) _ _ (fun j hj => by have := hl (j + 1) (by simp; omega); simpa [Nat.add_assoc,Nat.add_comm 1 j] using this) (by simp only [List.length_cons] at hk; omega) (inv.set hr' hkn) hB' hK)
theorem wp_region_later_tail {P : Program} {id : Nat} {Q : Exit → Act → World → Prop} {a : Act} {w : World} {l : List Oper} (n : Nat) (hm : P.follows .mixedOrders = true) (hB : Region.lexTailB .any l.toArray n = true)
  (h : wpQuiet P l.toArray (fun w' => ∃ x : Later w,w' = x.W) (fun a' => ∀ w',(∃ x : Later w,w' = x.W) → wpList P l.toArray Q (l.drop n) a' w') (l.take n) a) : (Code.region id l.toArray true).wp P Q a w := by
 simp only [Region.lexTailB,Bool.and_eq_true,decide_eq_true_eq] at hB
 obtain ⟨⟨⟨⟨hsel,hn⟩,hs⟩,hc⟩,hlex⟩ := hB
 have hn' : n < l.length := by simpa using hn
 have htl : (l.take n).length = n := by simp; omega
 have hdl : (l.drop n).length = l.toArray.size - n := by simp
 have inv0 : HeadInv .any l.toArray n (Array.replicate l.toArray.size false) :=
  ⟨by simp,fun j oj _ hl => (by rw [getD_replicate_false] at hl; cases hl),fun t _ ht => getD_in (by simpa using ht) (getD_replicate_false _ _)⟩
 have H := wpAnyT_lex (md := .any) (g := l.toArray.size - n) hsel hs hc hn (l.take n) 0 _ a (fun j hj => by
  have hj' : j < n := by rw [htl] at hj; exact hj
  simp [hj']) (by simpa using htl) inv0 (by rw [htl]; exact hlex) h
 refine wp_region_any hm ?_
 have := wpAny_of_headT (Q' := Q) (g := l.toArray.size - n) (fun listed a' w' hw' hL => by
  have := wpAny_of_seq (md := .any) (Q' := Q) (l.drop n) n listed a' w' (fun j => by simp [List.getElem?_drop]) (by rw [hdl]; exact hL.1) (hL.2 w' hw')
  rwa [hdl] at this) _ _ _ { w with drawn := w.drawn + 1 } ⟨⟨w.drew,(Below.refl _ _).drew⟩,rfl⟩ H
 rw [htl,show n + (l.toArray.size - n) = l.toArray.size by omega] at this
 exact this
end
structure Lay (α : Type) where
 size : Nat
 rep : World → α → List Value → Prop
 len : ∀ {w x vs},rep w x vs → vs.length = size
 mono : ∀ {w w' x vs},Below w.heap.size w w' → rep w x vs → rep w' x vs
def Lay.plain {α : Type} (size : Nat) (cells : α → List Value) (h : ∀ x,(cells x).length = size) : Lay α := { size := size,rep := fun _ x vs => vs = cells x,len := fun e => by rw [e]; exact h _,mono := fun _ e => e }
def Lay.int : Lay Int := Lay.plain 1 (fun x => [.int .i64 x]) fun _ => rfl
def Lay.u64 : Lay Int := Lay.plain 1 (fun x => [.int .u64 x]) fun _ => rfl
def Lay.bool : Lay Bool := Lay.plain 1 (fun x => [.bool x]) fun _ => rfl
def Lay.str : Lay ByteArray := Lay.plain 1 (fun x => [.string x]) fun _ => rfl
def Lay.and {α β : Type} (L : Lay α) (M : Lay β) : Lay (α × β) :=
 {size := L.size + M.size,rep := fun w x vs => ∃ us ts,vs = us ++ ts ∧ L.rep w x.1 us ∧ M.rep w x.2 ts,
  len := fun ⟨us,ts,e,h1,h2⟩ => by rw [e,List.length_append,L.len h1,M.len h2],
  mono := fun hb ⟨us,ts,e,h1,h2⟩ => ⟨us,ts,e,L.mono hb h1,M.mono hb h2⟩ }
def Sl {α : Type} (L : Lay α) (w : World) (A : Option Addr) (l : List α) : Prop :=
 ∀ i x,l[i]? = some x → ∃ b o vs,A = some ⟨b,o,none⟩ ∧ b < w.heap.size ∧ L.rep w x vs ∧ ∀ j v,vs[j]? = some v → w.cell? ⟨b,o + i * L.size + j,none⟩ = some v
section
variable {α : Type} {L : Lay α} {w w' : World} {A : Option Addr} {l : List α}
theorem Sl.nil : Sl L w A [] := fun i x h => by simp at h
theorem Sl.mono (h : Sl L w A l) (hb : Below w.heap.size w w') : Sl L w' A l := fun i x hx => by
 obtain ⟨b,o,vs,e,hlt,hr,hc⟩ := h i x hx
 exact ⟨b,o,vs,e,Nat.lt_of_lt_of_le hlt hb.size,L.mono hb hr,fun j v hj => by rw [hb.cell (p := ⟨b,_,none⟩) hlt]; exact hc j v hj⟩
theorem Sl.later (h : Sl L w A l) (x : Later w) : Sl L x.W A l := h.mono x.h
end
def Lay.slice {α : Type} (L : Lay α) : Lay (List α) :=
 {size := 1,rep := fun w l vs => ∃ A c,vs = [.slice A l.length c] ∧ l.length ≤ c ∧ Sl L w A l,
  len := fun ⟨A,c,e,_,_⟩ => by rw [e]; rfl,
  mono := fun hb ⟨A,c,e,hc,h⟩ => ⟨A,c,e,hc,h.mono hb⟩ }
section
variable {w : World} {A : Option Addr}
theorem Sl.int_at {l : List Int} (h : Sl Lay.int w A l) {i : Nat} (hi : i < l.length) : ∃ b o,A = some ⟨b,o,none⟩ ∧ b < w.heap.size ∧ w.cell? ⟨b,o + i,none⟩ = some (.int .i64 l[i]) := by
 obtain ⟨b,o,vs,e,hlt,hr,hc⟩ := h i l[i] (List.getElem?_eq_getElem hi)
 simp only [Lay.int,Lay.plain] at hr hc
 subst hr
 exact ⟨b,o,e,hlt,by have := hc 0 _ rfl; rwa [Nat.mul_one,Nat.add_zero] at this⟩
theorem Sl.str_at {l : List ByteArray} (h : Sl Lay.str w A l) {i : Nat} (hi : i < l.length) : ∃ b o,A = some ⟨b,o,none⟩ ∧ b < w.heap.size ∧ w.cell? ⟨b,o + i,none⟩ = some (.string l[i]) := by
 obtain ⟨b,o,vs,e,hlt,hr,hc⟩ := h i l[i] (List.getElem?_eq_getElem hi)
 simp only [Lay.str,Lay.plain] at hr hc
 subst hr
 exact ⟨b,o,e,hlt,by have := hc 0 _ rfl; rwa [Nat.mul_one,Nat.add_zero] at this⟩
end
theorem Sl.of_own {α : Type} {L : Lay α} {cells : α → List Value} {w : World} {base : Nat} {e : TypeId} {A : Option Addr} {n c : Nat} {xs : List Value} {l : List α}
  (hL : ∀ x,L.rep w x (cells x)) (h : w.ownsRow base e L.size (.slice A n c) n xs) (hxs : xs = l.flatMap cells) (hn : l.length = n) : Sl L w A l := by
 intro i x hx
 have hi : i < l.length := (List.getElem?_eq_some_iff.1 hx).1
 obtain ⟨g,cap,hv,_,hlt⟩ := h.form (by omega)
 have hA : A = some ⟨g,0,none⟩ := by injection hv
 subst hA
 refine ⟨g,0,cells x,rfl,hlt,hL x,fun j v hj => ?_⟩
 have hcell := h.cells (g := g) rfl (i * L.size + j) v
 have : (⟨g,0 + i * L.size + j,none⟩ : Addr) = (⟨g,0,none⟩ : Addr).add (i * L.size + j) := by
  unfold Addr.add
  split
  ·rename_i h0; rw [Nat.add_assoc,h0]
  ·simp
 rw [this]
 apply hcell
 rw [hxs]
 clear hcell this hxs h hv hn
 induction l generalizing i with
 | nil => simp at hx
 | cons y r ih =>
  cases i with
  | zero =>
   simp only [List.getElem?_cons_zero,Option.some.injEq] at hx
   subst hx
   simp only [Nat.zero_mul,Nat.zero_add,List.flatMap_cons]
   rw [List.getElem?_append_left (List.getElem?_eq_some_iff.1 hj).1]
   exact hj
  | succ i =>
   simp only [List.getElem?_cons_succ] at hx
   have hy : (cells y).length = L.size := L.len (hL y)
   rw [List.flatMap_cons,List.getElem?_append_right (by rw [hy,Nat.succ_mul]; omega),hy]
   have e2 : (i + 1) * L.size + j - L.size = i * L.size + j := by rw [Nat.succ_mul]; omega
   rw [e2]
   exact ih i hx (by simpa using hi)
structure ElemTy (P : Program) (t e : TypeId) (size bytes : Nat) (z : Value) : Prop where
 under : P.underlying t = some (.slice e)
 info : (P.info? e).map (fun i => (i.zero,i.size,i.bytes)) = some (some z,size,bytes)
 zero : z.cells.size = size
 pos : 0 < size
def Own {α : Type} (cells : α → List Value) (size base : Nat) (e : TypeId) (w : World) (v : Value) (l : List α) : Prop := w.ownsRow base e size v l.length (l.flatMap cells)
structure CellsOk {α : Type} (cells : α → List Value) (size : Nat) : Prop where
 len : ∀ x,(cells x).length = size
 one : ∀ x,∀ u ∈ cells x,u.oneCell' = true
section
variable {α : Type} {cells : α → List Value} {size base : Nat} {e : TypeId} {w w' : World} {v : Value} {l : List α}
theorem Own.nil : Own cells size base e w (.slice none 0 0) [] := World.ownsRow_nil w base e size
theorem Own.mono (h : Own cells size base e w v l) (hb : Below w.heap.size w w') : Own cells size base e w' v l :=
 World.ownsRow.kept h (row := none) ⟨hb.os,hb.tape,hb.output,hb.size,fun k hk _ => hb.block k hk⟩ (by cases v.ownBlock <;> simp)
theorem Own.alloc (h : Own cells size base e w v l) (o : Obj) : Own cells size base e (w.alloc o) v l := h.mono (bw_alloc (Below.refl _ _))
theorem Own.later (h : Own cells size base e w v l) (x : Later w) : Own cells size base e x.W v l := h.mono x.h
theorem Own.lit (w : World) (cs : Array Value) (l : List α) (hb : base ≤ w.heap.size) (hm : l.length ≤ maxLen) (hs : cs.size = l.length * size) (hc : cs.toList = l.flatMap cells) :
  Own cells size base e (w.alloc (.cells cs e)) (.slice (some ⟨w.heap.size,0,none⟩) l.length l.length) l := by
 unfold Own
 rw [← hc]
 exact World.ownsRow_lit w cs l.length hb hm hs
theorem Own.sl {L : Lay α} (h : Own cells size base e w v l) (hs : L.size = size) (hL : ∀ x,L.rep w x (cells x)) : ∃ A c,v = .slice A l.length c ∧ l.length ≤ c ∧ Sl L w A l := by
 subst hs
 rcases h.2 with ⟨rfl,h0⟩ | ⟨g,cap,cur,rfl,_,_,hc,_⟩
 ·have : l = [] := List.eq_nil_of_length_eq_zero h0
  subst this
  exact ⟨none,0,rfl,Nat.le_refl _,Sl.nil⟩
 ·exact ⟨_,cap,rfl,hc,Sl.of_own hL h rfl rfl⟩
theorem Own.le (h : Own cells size base e w v l) : l.length ≤ maxLen := by
 rcases h.2 with ⟨_,h0⟩ | ⟨_,_,_,_,_,_,h1,h2,_⟩
 ·omega
 ·omega
end
theorem wpList_push {P : Program} {α : Type} {cells : α → List Value} {t e : TypeId} {size bytes : Nat} {z : Value} (T : ElemTy P t e size bytes z) (hc : CellsOk cells size)
  {ops : Array Oper} {rest : List Oper} {o : Oper} {a : Act} {Q : Exit → Act → World → Prop} {w : World} (hgd : o.guard = none) (s x : Operand)
  (ho : o.op = .call { callee := .builtin .append,args := #[s,x],argTypes := #[t,t] }) (base : Nat) (v : Value) (l : List α) (hs : a.eval s = v) (hown : Own cells size base e w v l)
  (y : α) (g c : Nat) (hx : a.eval x = .slice (some ⟨g,0,none⟩) 1 c) (hy : ∀ j u,(cells y)[j]? = some u → w.cell? ⟨g,j,none⟩ = some u)
  (h63 : l.length + 1 ≤ maxLen) (hbytes : (l.length + 1) * bytes ≤ 140737488355328) (hbase : base ≤ w.heap.size)
  (h : ∀ v' w',Own cells size base e w' v' (l ++ [y]) → Below base w w' → wpList P ops Q rest (a.put o.dst v') w') : wpList P ops Q (o :: rest) a w := by
 obtain ⟨i,hi,hz,hsz,hby⟩ := info_parts T.info
 refine wpList_append_own_at w hgd s x t ho base e i z size bytes T.under hi hz hsz hby T.zero T.pos v l.length (l.flatMap cells) hs hown ⟨g,0,none⟩ 1 c (cells y) hx
  (by rw [hc.len,Nat.one_mul]) (fun j u hu => by
   have := hy j u hu
   unfold Addr.add
   split
   ·rename_i h0; rw [h0] at this; exact this
   ·simpa using this) (hc.one y) h63 hbytes hbase ?_
 intro v' w' hown' hg _ _
 refine h v' w' ?_ ((Below.refl _ _).grown hg hbase fun k hk => (hown.lt k hk).1)
 unfold Own
 rw [List.flatMap_append,List.length_append,List.flatMap_singleton]
 exact hown'
def cellsInt (x : Int) : List Value := [.int .i64 x]
theorem cellsInt_ok : CellsOk cellsInt 1 := ⟨fun _ => rfl,fun _ u hu => by simp [cellsInt] at hu; subst hu; rfl⟩
theorem cells_one_new (w : World) (u : Value) (t : TypeId) : ∀ j v,[u][j]? = some v → (w.alloc (.cells #[u] t)).cell? ⟨w.heap.size,j,none⟩ = some v := by
 intro j v hj
 match j,hj with
 | 0,hj => simp at hj; subst hj; simp
def Lay.word : Lay Nat := Lay.plain 1 (fun x => [.int .u64 (x : Int)]) fun _ => rfl
theorem ElemTy.make {P : Program} {t e : TypeId} {size bytes : Nat} {z : Value} (T : ElemTy P t e size bytes z) (kl kc : IntKind) (n : Nat) (hb : bytes * n ≤ 281474976710656) (h63 : n ≤ 9223372036854775807) (w : World) :
  (Instr.makeSlice t (.int kl (n : Int)) (.int kc (n : Int))).run P w = .ok (.slice (some ⟨w.heap.size,0,none⟩) n n) (w.alloc (.cells (madeCells z.cells (n * size)) e)) := by
 obtain ⟨i,hi,hz,hsz,hby⟩ := info_parts T.info
 have hb' : (i.bytes : Int) * (n : Int) ≤ 281474976710656 := by
  rw [hby]
  have h : ((bytes * n : Nat) : Int) ≤ 281474976710656 := by omega
  rwa [Int.natCast_mul] at h
 have hr := run_make (P := P) w t e i z T.under hi hz kl kc n n (by omega) (by omega) hb' (by omega)
 simp only [Int.toNat_natCast,hsz] at hr
 exact hr
theorem madeCells_one (z : Value) (n : Nat) : (madeCells #[z] n).toList = List.replicate n z := by
 unfold madeCells
 apply List.ext_getElem
 ·simp
 ·intro i h1 h2
  simp [Nat.mod_one]
section
variable {α : Type} {c : α → Value} {base : Nat} {e : TypeId} {w w' : World} {g n cap : Nat} {l : List α}
theorem flatMap_one (l : List α) : l.flatMap (fun x => [c x]) = l.map c := by
 induction l with
 | nil => rfl
 | cons x r ih => simp [ih]
theorem Own.made (z : Value) (w : World) (n : Nat) (l : List α) (hl : l.length = n) (hb : base ≤ w.heap.size) (hm : n ≤ maxLen) (hc : l.map c = List.replicate n z) :
  Own (fun x => [c x]) 1 base e (w.alloc (.cells (madeCells #[z] n) e)) (.slice (some ⟨w.heap.size,0,none⟩) n n) l := by
 subst hl
 exact Own.lit w _ l hb hm (by rw [size_madeCells,Nat.mul_one]) (by rw [madeCells_one,flatMap_one,hc])
end
theorem madeCells_all (z : Array Value) (hz : 0 < z.size) : ∀ n : Nat,(madeCells z (n * z.size)).toList = (List.replicate n z.toList).flatten
 | 0 => by simp [madeCells]
 | n + 1 => by
  have ih := madeCells_all z hz n
  rw [List.replicate_succ',List.flatten_append,← ih]
  unfold madeCells
  rw [Nat.succ_mul]
  simp only [Array.toList_map,Array.toList_range]
  rw [List.range_add,List.map_append]
  congr 1
  simp only [List.flatten_cons,List.flatten_nil,List.append_nil,List.map_map]
  apply List.ext_getElem
  ·simp
  ·intro i h1 h2
   simp at h1
   simp [Nat.mod_eq_of_lt h1,Nat.mul_comm n,h1]
theorem flatMap_replicate {α : Type} (cells : α → List Value) (x : α) (n : Nat) : (List.replicate n x).flatMap cells = (List.replicate n (cells x)).flatten := by
 rw [List.flatMap_def,List.map_replicate]
theorem Own.madeAll {α : Type} {cells : α → List Value} {size base : Nat} {e : TypeId} (z : Value) (x : α) (w : World) (n : Nat) (hz : z.cells.size = size) (hx : z.cells.toList = cells x) (hp : 0 < size) (hb : base ≤ w.heap.size) (hm : n ≤ maxLen) :
  Own cells size base e (w.alloc (.cells (madeCells z.cells (n * size)) e)) (.slice (some ⟨w.heap.size,0,none⟩) n n) (List.replicate n x) := by
 subst hz
 have := Own.lit (cells := cells) (size := z.cells.size) (base := base) (e := e) w (madeCells z.cells (n * z.cells.size)) (List.replicate n x) hb (by simpa using hm) (by rw [size_madeCells,List.length_replicate]) (by
  rw [madeCells_all _ hp,flatMap_replicate,hx])
 rw [List.length_replicate] at this
 exact this
section
variable {α : Type} {c0 c1 : α → Value} {base : Nat} {e : TypeId} {w w' : World} {g n cap : Nat} {l : List α}
end
theorem wpList_pushG {P : Program} {α : Type} {cells : α → List Value} {t e : TypeId} {size bytes : Nat} {z : Value} (T : ElemTy P t e size bytes z) (hc : CellsOk cells size)
  {ops : Array Oper} {rest : List Oper} {o : Oper} {a : Act} {Q : Exit → Act → World → Prop} {w : World} (hgd : o.guard = none) (s x : Operand)
  (ho : o.op = .call { callee := .builtin .append,args := #[s,x],argTypes := #[t,t] }) (base : Nat) (v : Value) (l : List α) (hs : a.eval s = v) (hown : Own cells size base e w v l)
  (y : α) (g c : Nat) (hx : a.eval x = .slice (some ⟨g,0,none⟩) 1 c) (hy : ∀ j u,(cells y)[j]? = some u → w.cell? ⟨g,j,none⟩ = some u)
  (h63 : l.length + 1 ≤ maxLen) (hbytes : (l.length + 1) * bytes ≤ 140737488355328) (hbase : base ≤ w.heap.size)
  (h : ∀ v' w',Own cells size base e w' v' (l ++ [y]) → Below base w w' → w.grownBy w' v.ownBlock → wpList P ops Q rest (a.put o.dst v') w') : wpList P ops Q (o :: rest) a w := by
 obtain ⟨i,hi,hz,hsz,hby⟩ := info_parts T.info
 refine wpList_append_own_at w hgd s x t ho base e i z size bytes T.under hi hz hsz hby T.zero T.pos v l.length (l.flatMap cells) hs hown ⟨g,0,none⟩ 1 c (cells y) hx
  (by rw [hc.len,Nat.one_mul]) (fun j u hu => by
   have := hy j u hu
   unfold Addr.add
   split
   ·rename_i h0; rw [h0] at this; exact this
   ·simpa using this) (hc.one y) h63 hbytes hbase ?_
 intro v' w' hown' hg _ _
 refine h v' w' ?_ ((Below.refl _ _).grown hg hbase fun k hk => (hown.lt k hk).1) hg
 unfold Own
 rw [List.flatMap_append,List.length_append,List.flatMap_singleton]
 exact hown'
theorem Own.form {α : Type} {cells : α → List Value} {size base : Nat} {e : TypeId} {w : World} {A : Option Addr} {n c : Nat} {l : List α} (h : Own cells size base e w (.slice A n c) l) (hl : 0 < l.length) :
  ∃ g,A = some ⟨g,0,none⟩ ∧ base ≤ g ∧ g < w.heap.size ∧ n = l.length := by
 obtain ⟨g,cap,hv,hb,hlt⟩ := World.ownsRow.form h hl
 simp only [Value.slice.injEq] at hv
 exact ⟨g,hv.1,hb,hlt,hv.2.1⟩
def Opens {α : Type} (P : Program) (t : TypeId) (L : Lay α) (ok : α → Prop) : Prop :=
 ∀ (H : Type) (enc : TypeId × Value → H) (w : World) (spare : Nat → Bool) (held : Bool) (fuel : Nat) (cs : List Value) (x : DataW H × List MemPlace),DataW.trod enc P w 0 spare held fuel t cs = some x → ∃ y,L.rep w y cs ∧ ok y
def I64 (n : Int) : Prop := -9223372036854775808 ≤ n ∧ n ≤ 9223372036854775807
theorem I64.of_wf {n : Int} (h : (Lit.int .i64 n).wf = true) : I64 n := by
 simpa [Lit.wf,IntKind.min,IntKind.max,IntKind.signed,IntKind.bits,I64] using h
section
variable {P : Program} {t e : TypeId}
theorem Opens.int (ht : P.underlying t = some (.int .i64)) : Opens P t Lay.int I64 := fun H enc w spare held fuel cs x h => by
 obtain ⟨n,rfl,_,hw⟩ := DataW.trod_int ht h
 exact ⟨n,rfl,I64.of_wf hw⟩
theorem Opens.bool (ht : P.underlying t = some .bool) : Opens P t Lay.bool (fun _ => True) := fun H enc w spare held fuel cs x h => by
 obtain ⟨n,rfl,_⟩ := DataW.trod_bool ht h
 exact ⟨n,rfl,trivial⟩
theorem Opens.str (ht : P.underlying t = some .string) : Opens P t Lay.str (fun s => s.size ≤ maxLen) := fun H enc w spare held fuel cs x h => by
 obtain ⟨s,rfl,_,hs⟩ := DataW.trod_string ht h
 exact ⟨s,rfl,hs⟩
theorem cell_form {w : World} {a : Addr} {v : Value} (h : w.cell? a = some v) : a = ⟨a.block,a.off,none⟩ ∧ a.block < w.heap.size := by
 unfold World.cell? at h
 split at h
 ·rename_i c _ _ hh
  split at h
  ·cases h
  ·rename_i hs
   refine ⟨?_,(Array.getElem?_eq_some_iff.1 hh).1⟩
   cases a with
   | mk b o s => cases s with
    | none => rfl
    | some s => simp at hs
 ·cases h
theorem add_form (b o n : Nat) : (⟨b,o,none⟩ : Addr).add n = ⟨b,o + n,none⟩ := by
 unfold Addr.add
 split
 ·rename_i h; rw [h,Nat.add_zero]
 ·rfl
theorem Opens.slice {α : Type} {L : Lay α} {ok : α → Prop} (ht : P.underlying t = some (.slice e)) (hc : P.cellsOf e = L.size) (hp : 0 < L.size) (he : Opens P e L ok) : Opens P t L.slice (fun l => l.length ≤ maxLen ∧ ∀ x ∈ l,ok x) := fun H enc w spare held fuel cs x h => by
 rcases open_slice ht h with ⟨rfl,_⟩ | ⟨a,len,cap,m,n,D,Pl,rfl,_,hl,hm,hmm,_,hi⟩
 ·exact ⟨[],⟨none,0,rfl,Nat.le_refl _,Sl.nil⟩,by simp,by simp⟩
 ·have hlm : len ≤ m := by rw [hmm]; split <;> omega
  have hy : ∀ i,i < len → ∃ y cs',L.rep w y cs' ∧ ok y ∧ cs'.length = L.size ∧ ∀ j,j < L.size → w.cell? ((a.add (i * L.size)).add j) = cs'[j]? := fun i hilt => by
   obtain ⟨cs',hcs,htr⟩ := hi i (by omega)
   rw [hc] at hcs
   obtain ⟨_,hlen,hat⟩ := World.cells?_some hcs
   obtain ⟨y,hr,hok⟩ := he H enc w spare held n cs' _ htr
   exact ⟨y,cs',hr,hok,hlen,hat⟩
  -- the list
  have hlist : ∀ k,k ≤ len → ∃ l : List α,l.length = k ∧ ∀ i x,l[i]? = some x → ∃ cs',L.rep w x cs' ∧ ok x ∧ cs'.length = L.size ∧ ∀ j,j < L.size → w.cell? ((a.add (i * L.size)).add j) = cs'[j]? := by
   intro k
   induction k with
   | zero => exact fun _ => ⟨[],rfl,fun i x hx => by simp at hx⟩
   | succ k ih =>
    intro hk
    obtain ⟨l,hll,hl2⟩ := ih (by omega)
    obtain ⟨y,cs',h1,h2,h3,h4⟩ := hy k (by omega)
    refine ⟨l ++ [y],by simp [hll],fun i x hx => ?_⟩
    rcases Nat.lt_or_ge i k with h5 | h5
    ·rw [List.getElem?_append_left (by omega)] at hx
     exact hl2 i x hx
    ·have h6 : i < (l ++ [y]).length := (List.getElem?_eq_some_iff.1 hx).1
     have h7 : i = k := by simp [hll] at h6; omega
     subst h7
     rw [List.getElem?_append_right (by omega),hll,Nat.sub_self] at hx
     simp at hx
     subst hx
     exact ⟨cs',h1,h2,h3,h4⟩
  obtain ⟨l,hll,hl2⟩ := hlist len (Nat.le_refl _)
  refine ⟨l,⟨some a,cap,by rw [hll],by omega,fun i x hx => ?_⟩,by omega,fun x hx => ?_⟩
  ·obtain ⟨cs',h1,_,h3,h4⟩ := hl2 i x hx
   have hi2 : i < l.length := (List.getElem?_eq_some_iff.1 hx).1
   -- the address itself
   obtain ⟨cs0,_,_,h03,h04⟩ := hl2 0 l[0] (List.getElem?_eq_getElem (by omega))
   have h0 := h04 0 hp
   rw [List.getElem?_eq_getElem (by omega)] at h0
   have e0 : (a.add (0 * L.size)).add 0 = a := by rw [Nat.zero_mul]; simp [Addr.add]
   rw [e0] at h0
   obtain ⟨ha,hlt⟩ := cell_form h0
   refine ⟨a.block,a.off,cs',by rw [← ha],hlt,h1,fun j v hj => ?_⟩
   have hj2 : j < L.size := by rw [← h3]; exact (List.getElem?_eq_some_iff.1 hj).1
   have h5 := h4 j hj2
   rw [ha,add_form,add_form] at h5
   rw [h5]
   exact hj
  ·obtain ⟨i,hi2,rfl⟩ := List.getElem_of_mem hx
   exact (hl2 i l[i] (List.getElem?_eq_getElem hi2)).choose_spec.2.1
end
def Lay.unit : Lay Unit := { size := 0,rep := fun _ _ vs => vs = [],len := fun h => by rw [h]; rfl,mono := fun _ h => h }
def OpensF {α : Type} (P : Program) (fs : List Field) (off : Nat) (L : Lay α) (ok : α → Prop) : Prop :=
 ∀ (H : Type) (enc : TypeId × Value → H) (w : World) (spare : Nat → Bool) (held : Bool) (n : Nat) (cs : List Value),cs.length = off + L.size →
  (∀ (i : Nat) (f : Field),fs[i]? = some f → ∃ x,DataW.trod enc P w 0 spare held n f.type ((cs.drop f.offset).take (P.cellsOf f.type)) = some x) → ∃ y,L.rep w y (cs.drop off) ∧ ok y
theorem OpensF.nil {P : Program} {off : Nat} : OpensF P [] off Lay.unit (fun _ => True) := fun H enc w spare held n cs hl _ => ⟨(),by
 show cs.drop off = []
 rw [List.drop_eq_nil_iff]
 simp only [Lay.unit] at hl
 omega,trivial⟩
theorem OpensF.cons {α β : Type} {P : Program} {f : Field} {fs : List Field} {off : Nat} {L : Lay α} {M : Lay β} {ok : α → Prop} {ok' : β → Prop} (ho : f.offset = off) (hc : P.cellsOf f.type = L.size) (hL : Opens P f.type L ok) (hM : OpensF P fs (off + L.size) M ok') :
  OpensF P (f :: fs) off (L.and M) (fun x => ok x.1 ∧ ok' x.2) := fun H enc w spare held n cs hl h => by
 obtain ⟨x,hx⟩ := h 0 f rfl
 rw [ho,hc] at hx
 obtain ⟨y,hy,hok⟩ := hL H enc w spare held n _ x hx
 obtain ⟨z,hz,hok'⟩ := hM H enc w spare held n cs (by rw [hl]; show off + (L.size + M.size) = _; omega) (fun i g hg => h (i + 1) g hg)
 refine ⟨(y,z),⟨_,_,?_,hy,hz⟩,hok,hok'⟩
 rw [← List.drop_drop,List.take_append_drop]
theorem Opens.struct {α : Type} {P : Program} {t : TypeId} {fs : Array Field} {L : Lay α} {ok : α → Prop} (ht : P.underlying t = some (.struct fs)) (hc : P.cellsOf t = L.size) (hF : OpensF P fs.toList 0 L ok) : Opens P t L ok := fun H enc w spare held fuel cs x h => by
 obtain ⟨xs,n,_,_,hlen,hxl,hg⟩ := DataW.trod_struct ht h
 have := hF H enc w spare held n cs (by rw [hlen,hc,Nat.zero_add]) (fun i f hf => by
  have h1 := hg i f (by simpa using hf)
  have hi : i < fs.size := by
   have := (List.getElem?_eq_some_iff.1 hf).1
   simpa using this
  rw [List.getElem?_eq_getElem (by omega)] at h1
  exact ⟨_,h1⟩)
 simpa using this
theorem Opens.turn {α β : Type} {P : Program} {t : TypeId} {L : Lay α} {M : Lay β} {ok : α → Prop} {ok' : β → Prop} (h : Opens P t L ok) (f : α → β) (hr : ∀ w x vs,L.rep w x vs → M.rep w (f x) vs) (ho : ∀ x,ok x → ok' (f x)) : Opens P t M ok' := fun H enc w spare held fuel cs x hx => by
 obtain ⟨y,h1,h2⟩ := h H enc w spare held fuel cs x hx
 exact ⟨f y,hr _ _ _ h1,ho _ h2⟩
theorem trod_block {H : Type} {enc : TypeId × Value → H} {P : Program} {w : World} {base : Nat} {spare : Nat → Bool} {held : Bool} {t : TypeId} {v : Value} {d : DataW H} {p : List MemPlace} (h : DataW.Trod enc P w base spare held t v d p) : ∀ x ∈ p,x.block < w.heap.size := by
 obtain ⟨m,hm⟩ := h; exact DataW.trod_lt m _ _ _ hm
def Light {H : Type} (P : Program) (t : TypeId) (d : DataW H) : Prop := ∀ z ∈ d.weights P t,z ≤ reachBytes
def OpensW {α : Type} (P : Program) (t : TypeId) (L : Lay α) (ok : α → Prop) : Prop :=
 ∀ (H : Type) (enc : TypeId × Value → H) (w : World) (spare : Nat → Bool) (held : Bool) (fuel : Nat) (cs : List Value) (x : DataW H × List MemPlace),DataW.trod enc P w 0 spare held fuel t cs = some x → Light P t x.1 → ∃ y,L.rep w y cs ∧ ok y
section
variable {P : Program} {t e : TypeId}
theorem Opens.light {α : Type} {L : Lay α} {ok : α → Prop} (h : Opens P t L ok) : OpensW P t L ok := fun H enc w spare held fuel cs x hx _ => h H enc w spare held fuel cs x hx
theorem OpensW.int (ht : P.underlying t = some (.int .i64)) : OpensW P t Lay.int I64 := (Opens.int ht).light
theorem OpensW.bool (ht : P.underlying t = some .bool) : OpensW P t Lay.bool (fun _ => True) := (Opens.bool ht).light
theorem OpensW.str (ht : P.underlying t = some .string) : OpensW P t Lay.str (fun s => s.size ≤ maxLen) := (Opens.str ht).light
theorem weightsAll_mem {H : Type} {e : TypeId} {d : DataW H} : ∀ {l : List (DataW H)},d ∈ l → ∀ z ∈ d.weights P e,z ∈ DataW.weightsAll P e l
 | x :: r,hd,z,hz => by
  rw [DataW.weightsAll,List.mem_append]
  rcases List.mem_cons.1 hd with h | h
  ·subst h; exact Or.inl hz
  ·exact Or.inr (weightsAll_mem h z hz)
theorem weightsEach_mem {H : Type} : ∀ {ts : List TypeId} {l : List (DataW H)} {i : Nat} {t : TypeId} {d : DataW H},ts[i]? = some t → l[i]? = some d → ∀ z ∈ d.weights P t,z ∈ DataW.weightsEach P ts l
 | [],l,i,t,d,h,_,_,_ => by simp at h
 | a :: ts,[],i,t,d,_,h,_,_ => by simp at h
 | a :: ts,x :: r,0,t,d,h1,h2,z,hz => by
  simp at h1 h2
  subst h1; subst h2
  rw [DataW.weightsEach,List.mem_append]
  exact Or.inl hz
 | a :: ts,x :: r,i + 1,t,d,h1,h2,z,hz => by
  rw [DataW.weightsEach,List.mem_append]
  exact Or.inr (weightsEach_mem (by simpa using h1) (by simpa using h2) z hz)
theorem OpensW.slice {α : Type} {L : Lay α} {ok : α → Prop} (ht : P.underlying t = some (.slice e)) (hc : P.cellsOf e = L.size) (hp : 0 < L.size) (he : OpensW P e L ok) : OpensW P t L.slice (fun l => l.length * P.bytesOf e ≤ reachBytes ∧ l.length ≤ maxLen ∧ ∀ x ∈ l,ok x) := fun H enc w spare held fuel cs x h hlight => by
 rcases open_slice ht h with ⟨rfl,_⟩ | ⟨a,len,cap,m,n,D,Pl,rfl,_,hl,hm,hmm,hx,hi⟩
 ·exact ⟨[],⟨none,0,rfl,Nat.le_refl _,Sl.nil⟩,by simp,by simp,by simp⟩
 ·have hlm : len ≤ m := by rw [hmm]; split <;> omega
  subst hx
  have hw : (DataW.slice ((List.range len).map D) ((List.range (m - len)).map fun j => D (len + j))).weights P t = (((List.range len).map D).length + ((List.range (m - len)).map fun j => D (len + j)).length) * P.bytesOf e :: (DataW.weightsAll P e ((List.range len).map D) ++ DataW.weightsAll P e ((List.range (m - len)).map fun j => D (len + j))) := by
   rw [DataW.weights,ht]
  have hlen : len * P.bytesOf e ≤ reachBytes := by
   have h1 := hlight _ (by show _ ∈ (DataW.slice _ _).weights P t; rw [hw]; exact List.mem_cons_self ..)
   refine Nat.le_trans (Nat.mul_le_mul_right _ ?_) h1
   simp
  have hel : ∀ i,i < len → Light P e (D i) := fun i hilt z hz => by
   refine hlight z ?_
   show z ∈ (DataW.slice _ _).weights P t
   rw [hw,List.mem_cons,List.mem_append]
   exact Or.inr (Or.inl (weightsAll_mem (List.mem_map.2 ⟨i,List.mem_range.2 hilt,rfl⟩) z hz))
  have hy : ∀ i,i < len → ∃ y cs',L.rep w y cs' ∧ ok y ∧ cs'.length = L.size ∧ ∀ j,j < L.size → w.cell? ((a.add (i * L.size)).add j) = cs'[j]? := fun i hilt => by
   obtain ⟨cs',hcs,htr⟩ := hi i (by omega)
   rw [hc] at hcs
   obtain ⟨_,hlen,hat⟩ := World.cells?_some hcs
   obtain ⟨y,hr,hok⟩ := he H enc w spare held n cs' _ htr (hel i hilt)
   exact ⟨y,cs',hr,hok,hlen,hat⟩
  have hlist : ∀ k,k ≤ len → ∃ l : List α,l.length = k ∧ ∀ i x,l[i]? = some x → ∃ cs',L.rep w x cs' ∧ ok x ∧ cs'.length = L.size ∧ ∀ j,j < L.size → w.cell? ((a.add (i * L.size)).add j) = cs'[j]? := by
   intro k
   induction k with
   | zero => exact fun _ => ⟨[],rfl,fun i x hx => by simp at hx⟩
   | succ k ih =>
    intro hk
    obtain ⟨l,hll,hl2⟩ := ih (by omega)
    obtain ⟨y,cs',h1,h2,h3,h4⟩ := hy k (by omega)
    refine ⟨l ++ [y],by simp [hll],fun i x hx => ?_⟩
    rcases Nat.lt_or_ge i k with h5 | h5
    ·rw [List.getElem?_append_left (by omega)] at hx
     exact hl2 i x hx
    ·have h6 : i < (l ++ [y]).length := (List.getElem?_eq_some_iff.1 hx).1
     have h7 : i = k := by simp [hll] at h6; omega
     subst h7
     rw [List.getElem?_append_right (by omega),hll,Nat.sub_self] at hx
     simp at hx
     subst hx
     exact ⟨cs',h1,h2,h3,h4⟩
  obtain ⟨l,hll,hl2⟩ := hlist len (Nat.le_refl _)
  refine ⟨l,⟨some a,cap,by rw [hll],by omega,fun i x hx => ?_⟩,by rw [hll]; exact hlen,by omega,fun x hx => ?_⟩
  ·obtain ⟨cs',h1,_,h3,h4⟩ := hl2 i x hx
   have hi2 : i < l.length := (List.getElem?_eq_some_iff.1 hx).1
   obtain ⟨cs0,_,_,h03,h04⟩ := hl2 0 l[0] (List.getElem?_eq_getElem (by omega))
   have h0 := h04 0 hp
   rw [List.getElem?_eq_getElem (by omega)] at h0
   have e0 : (a.add (0 * L.size)).add 0 = a := by rw [Nat.zero_mul]; simp [Addr.add]
   rw [e0] at h0
   obtain ⟨ha,hlt⟩ := cell_form h0
   refine ⟨a.block,a.off,cs',by rw [← ha],hlt,h1,fun j v hj => ?_⟩
   have hj2 : j < L.size := by rw [← h3]; exact (List.getElem?_eq_some_iff.1 hj).1
   have h5 := h4 j hj2
   rw [ha,add_form,add_form] at h5
   rw [h5]
   exact hj
  ·obtain ⟨i,hi2,rfl⟩ := List.getElem_of_mem hx
   exact (hl2 i l[i] (List.getElem?_eq_getElem hi2)).choose_spec.2.1
end
def OpensFW {α : Type} (P : Program) (fs : List Field) (off : Nat) (L : Lay α) (ok : α → Prop) : Prop :=
 ∀ (H : Type) (enc : TypeId × Value → H) (w : World) (spare : Nat → Bool) (held : Bool) (n : Nat) (cs : List Value),cs.length = off + L.size →
  (∀ (i : Nat) (f : Field),fs[i]? = some f → ∃ x,DataW.trod enc P w 0 spare held n f.type ((cs.drop f.offset).take (P.cellsOf f.type)) = some x ∧ Light P f.type x.1) → ∃ y,L.rep w y (cs.drop off) ∧ ok y
theorem OpensFW.nil {P : Program} {off : Nat} : OpensFW P [] off Lay.unit (fun _ => True) := fun H enc w spare held n cs hl _ => ⟨(),by
 show cs.drop off = []
 rw [List.drop_eq_nil_iff]
 simp only [Lay.unit] at hl
 omega,trivial⟩
theorem OpensFW.cons {α β : Type} {P : Program} {f : Field} {fs : List Field} {off : Nat} {L : Lay α} {M : Lay β} {ok : α → Prop} {ok' : β → Prop} (ho : f.offset = off) (hc : P.cellsOf f.type = L.size) (hL : OpensW P f.type L ok) (hM : OpensFW P fs (off + L.size) M ok') :
  OpensFW P (f :: fs) off (L.and M) (fun x => ok x.1 ∧ ok' x.2) := fun H enc w spare held n cs hl h => by
 obtain ⟨x,hx,hxl⟩ := h 0 f rfl
 rw [ho,hc] at hx
 obtain ⟨y,hy,hok⟩ := hL H enc w spare held n _ x hx hxl
 obtain ⟨z,hz,hok'⟩ := hM H enc w spare held n cs (by rw [hl]; show off + (L.size + M.size) = _; omega) (fun i g hg => h (i + 1) g hg)
 refine ⟨(y,z),⟨_,_,?_,hy,hz⟩,hok,hok'⟩
 rw [← List.drop_drop,List.take_append_drop]
theorem OpensW.struct {α : Type} {P : Program} {t : TypeId} {fs : Array Field} {L : Lay α} {ok : α → Prop} (ht : P.underlying t = some (.struct fs)) (hc : P.cellsOf t = L.size) (hF : OpensFW P fs.toList 0 L ok) : OpensW P t L ok := fun H enc w spare held fuel cs x h hlight => by
 obtain ⟨xs,n,_,hx,hlen,hxl,hg⟩ := DataW.trod_struct ht h
 subst hx
 have hw : (DataW.agg (xs.map (·.1))).weights P t = DataW.weightsEach P (fs.toList.map (·.type)) (xs.map (·.1)) := by rw [DataW.weights,ht]
 have := hF H enc w spare held n cs (by rw [hlen,hc,Nat.zero_add]) (fun i f hf => by
  have h1 := hg i f (by simpa using hf)
  have hi : i < fs.size := by
   have := (List.getElem?_eq_some_iff.1 hf).1
   simpa using this
  rw [List.getElem?_eq_getElem (by omega)] at h1
  refine ⟨_,h1,fun z hz => hlight z ?_⟩
  show z ∈ (DataW.agg _).weights P t
  rw [hw]
  refine weightsEach_mem (i := i) (t := f.type) (d := (xs[i]'(by omega)).1) ?_ ?_ z hz
  ·rw [List.getElem?_map,hf]; rfl
  ·rw [List.getElem?_map,List.getElem?_eq_getElem (by omega)]; rfl)
 simpa using this
theorem OpensW.turn {α β : Type} {P : Program} {t : TypeId} {L : Lay α} {M : Lay β} {ok : α → Prop} {ok' : β → Prop} (h : OpensW P t L ok) (f : α → β) (hr : ∀ w x vs,L.rep w x vs → M.rep w (f x) vs) (ho : ∀ x,ok x → ok' (f x)) : OpensW P t M ok' := fun H enc w spare held fuel cs x hx hl => by
 obtain ⟨y,h1,h2⟩ := h H enc w spare held fuel cs x hx hl
 exact ⟨f y,hr _ _ _ h1,ho _ h2⟩
theorem OpensW.arg {α : Type} {P : Program} {t : TypeId} {L : Lay α} {ok : α → Prop} (h : OpensW P t L ok) {H : Type} {enc : TypeId × Value → H} {w : World} {spare : Nat → Bool} {held : Bool} {v : Value} {d : DataW H} {p : List MemPlace}
  (ht : DataW.Trod enc P w 0 spare held t v d p) (hl : Light P t d) : ∃ y,L.rep w y v.cells.toList ∧ ok y := by
 obtain ⟨fuel,hf⟩ := ht
 exact h H enc w spare held fuel _ _ hf hl
def Box (w : World) (b : Nat) (cs : List Value) (t : TypeId) : Prop := w.heap[b]? = some (.cells cs.toArray t (0,0))
section
variable {w w' : World} {b : Nat} {cs : List Value} {t : TypeId}
theorem Box.lt (h : Box w b cs t) : b < w.heap.size := (Array.getElem?_eq_some_iff.1 h).1
theorem Box.cell (h : Box w b cs t) (i : Nat) {v : Value} (hi : cs[i]? = some v) : w.cell? ⟨b,i,none⟩ = some v := by
 have h' : w.heap[b]? = some (.cells cs.toArray t (0,0)) := h
 unfold World.cell?
 simp only [h']
 simpa using hi
theorem Box.free (h : Box w b cs t) (i : Nat) : w.frozen? ⟨b,i,none⟩ = false := by
 have h' : w.heap[b]? = some (.cells cs.toArray t (0,0)) := h
 unfold World.frozen?
 simp only [h']
 simp
theorem Box.below {B : Nat} (h : Box w b cs t) (hlt : b < B) (hb : Below B w w') : Box w' b cs t := (hb.block b hlt).trans h
theorem Box.mono (h : Box w b cs t) (hb : Below w.heap.size w w') : Box w' b cs t := h.below h.lt hb
theorem Box.grown {row : Option Nat} (h : Box w b cs t) (hg : w.grownBy w' row) (hne : some b ≠ row) : Box w' b cs t := (hg.block b h.lt hne).trans h
theorem Box.new (w : World) (cs : List Value) (t : TypeId) : Box (w.alloc (.cells cs.toArray t)) w.heap.size cs t := heap_alloc_new w _
theorem Box.at {w : World} {b : Nat} {cs : List Value} {t : TypeId} (h : w.heap.size = b) : Box (w.alloc (.cells cs.toArray t)) b cs t := by subst h; exact Box.new w cs t
theorem Box.alloc (h : Box w b cs t) (o : Obj) : Box (w.alloc o) b cs t := h.mono (bw_alloc (Below.refl _ _))
theorem Box.drew (h : Box w b cs t) : Box w.drew b cs t := h
theorem Box.set (h : Box w b cs t) (i : Nat) (v : Value) : Box (w.setCell ⟨b,i,none⟩ v) b (cs.set i v) t := by
 have h' : w.heap[b]? = some (.cells cs.toArray t (0,0)) := h
 unfold Box World.setCell
 simp only [Array.getElem?_modify,if_true,h',Option.map_some]
 simp
theorem Box.setOther (h : Box w b cs t) {p : Addr} (hp : p.block ≠ b) (v : Value) : Box (w.setCell p v) b cs t := by
 have h' : w.heap[b]? = some (.cells cs.toArray t (0,0)) := h
 unfold Box World.setCell
 simp only [Array.getElem?_modify,if_neg hp,h']
end
theorem keptC {w w' : World} {b o : Nat} {v : Value} (hc : w.cell? ⟨b,o,none⟩ = some v) (h : b < w.heap.size) (hb : Below w.heap.size w w') : w'.cell? ⟨b,o,none⟩ = some v := by rw [hb.cell h]; exact hc
theorem grown_set (w : World) (b i : Nat) (v : Value) : w.grownBy (w.setCell ⟨b,i,none⟩ v) (some b) := by
 refine ⟨rfl,rfl,rfl,by simp [World.setCell],fun k hk hne => ?_⟩
 unfold World.setCell
 simp only [Array.getElem?_modify]
 rw [if_neg (fun h => hne (by rw [h]))]
theorem grown_trans {w w1 w2 : World} {row : Option Nat} (h1 : w.grownBy w1 row) (h2 : w1.grownBy w2 row) : w.grownBy w2 row :=
 ⟨h2.os.trans h1.os,h2.tape.trans h1.tape,h2.output.trans h1.output,Nat.le_trans h1.size h2.size,fun k hk hne => (h2.block k (Nat.lt_of_lt_of_le hk h1.size) hne).trans (h1.block k hk hne)⟩
theorem grown_set2 (w : World) (b i j : Nat) (v u : Value) : w.grownBy ((w.setCell ⟨b,i,none⟩ v).setCell ⟨b,j,none⟩ u) (some b) := grown_trans (grown_set w b i v) (grown_set _ b j u)
theorem Box.store2 {w : World} {b : Nat} {a0 a1 : Value} {t : TypeId} (h : Box w b [a0,a1] t) (v0 v1 : Value) :
  Box ((w.setCell ⟨b,0,none⟩ v0).setCell ⟨b,1,none⟩ v1) b [v0,v1] t ∧ w.grownBy ((w.setCell ⟨b,0,none⟩ v0).setCell ⟨b,1,none⟩ v1) (some b) :=
 ⟨(h.set 0 v0).set 1 v1,grown_set2 _ _ _ _ _ _⟩
theorem Box.store3 {w : World} {b : Nat} {a0 a1 a2 : Value} {t : TypeId} (h : Box w b [a0,a1,a2] t) (v0 v1 v2 : Value) :
  Box (((w.setCell ⟨b,0,none⟩ v0).setCell ⟨b,1,none⟩ v1).setCell ⟨b,2,none⟩ v2) b [v0,v1,v2] t ∧ w.grownBy (((w.setCell ⟨b,0,none⟩ v0).setCell ⟨b,1,none⟩ v1).setCell ⟨b,2,none⟩ v2) (some b) :=
 ⟨((h.set 0 v0).set 1 v1).set 2 v2,grown_trans (grown_set2 _ _ _ _ _ _) (grown_set _ _ _ _)⟩
theorem Box.store4 {w : World} {b : Nat} {a0 a1 a2 a3 : Value} {t : TypeId} (h : Box w b [a0,a1,a2,a3] t) (v0 v1 v2 v3 : Value) :
  Box ((((w.setCell ⟨b,0,none⟩ v0).setCell ⟨b,1,none⟩ v1).setCell ⟨b,2,none⟩ v2).setCell ⟨b,3,none⟩ v3) b [v0,v1,v2,v3] t ∧ w.grownBy ((((w.setCell ⟨b,0,none⟩ v0).setCell ⟨b,1,none⟩ v1).setCell ⟨b,2,none⟩ v2).setCell ⟨b,3,none⟩ v3) (some b) :=
 ⟨(((h.set 0 v0).set 1 v1).set 2 v2).set 3 v3,grown_trans (grown_set2 _ _ _ _ _ _) (grown_set2 _ _ _ _ _ _)⟩
@[go_sem] theorem Later.cell_drew {w : World} (x : Later w.drew) {b o : Nat} {s : Option Nat} (h : b < w.heap.size) : x.W.cell? ⟨b,o,s⟩ = w.cell? ⟨b,o,s⟩ := x.h.cell (p := ⟨b,o,s⟩) h
@[go_sem] theorem Later.frozen_drew {w : World} (x : Later w.drew) {b o : Nat} {s : Option Nat} (h : b < w.heap.size) : x.W.frozen? ⟨b,o,s⟩ = w.frozen? ⟨b,o,s⟩ := x.h.frozen (p := ⟨b,o,s⟩) h
def plainOp : Op → Bool
 | .move _ | .assign _ | .pick _ _ _ | .load _ _ | .binOp _ _ _ _ _ | .unOp _ _ _ | .convert _ _ _ | .field _ _ _ | .fieldAddr _ _ _ | .indexAddr _ _ _ | .index _ _ _ | .slice _ _ _ _ _ | .extract _ _ | .build _ _ | .makeFunc _ _ _ | .lookup _ _ _ _ => true
 | .call c => match c.callee with
  | .builtin .len => true
  | _ => false
 | _ => false
theorem run_value (s : Sem Value) (P : Program) (w w' : World) (n : Next) (h : (do let x ← s; pure (Next.value x) : Sem Next).run P w = .ok n w') : ∃ u,n = .value u := by
 simp only [Sem.run_bind] at h
 cases hs : s.run P w with
 | ok x w1 => simp [hs] at h; exact ⟨x,h.1.symm⟩
 | halt x w1 => simp [hs] at h
theorem plain_value {o : Oper} (ho : plainOp o.op = true) {ρ : Operand → Value} {P : Program} {w w' : World} {n : Next} (h : (execOp ρ o).run P w = .ok n w') : ∃ u,n = .value u := by
 unfold execOp at h
 cases hop : o.op <;> rw [hop] at ho h <;> simp only [plainOp] at ho <;> try (exact run_value _ _ _ _ _ h)
 case move => simp at h; exact ⟨_,h.1.symm⟩
 case assign => simp at h; exact ⟨_,h.1.symm⟩
 case pick c a b =>
  simp only [Sem.run_bind] at h
  cases hs : (asBool (ρ c)).run P w with
  | ok x w1 => simp [hs] at h; exact ⟨_,h.1.symm⟩
  | halt x w1 => simp [hs] at h
 case call c =>
  split at ho
  ·rename_i hc
   simp [resolve,hc,invoke,builtin] at h
   exact run_value _ _ _ _ _ (by simpa using h)
  ·cases ho
 all_goals (cases ho)
section
variable {P : Program} {ops : Array Oper} {md : Region.Mode} {Q : Exit → Act → World → Prop}
def QF : Exit → Act → World → Prop := fun _ _ _ => False
theorem letsOut_QF : ¬ LetsOut QF := fun ⟨_,_,h⟩ => h
theorem wpOp_QF {i : Nat} {K : Act → World → Prop} {a : Act} {w : World} (h : wpOp P ops QF i K a w) : wpOp P ops Q i K a w := by
 unfold wpOp at *
 split
 ·rename_i ho; simpa [ho] using h
 ·rename_i o ho
  simp only [ho] at h
  split
  ·rename_i hw
   simp only [hw,if_true] at h
   rcases h with h | h
   ·left
    unfold Oper.wp at *
    generalize (execOp a.eval o).run P w = r at *
    cases r with
    | ok n w' =>
     cases n <;> simp only [Oper.upon] at h ⊢ <;> try (exact h)
     exact Calls.mono h (fun e w'' he => by cases e <;> first | exact he | exact absurd he letsOut_QF | exact he.elim)
    | halt x w' => cases x <;> simp only [Oper.upon] at h ⊢ <;> exact h.elim
   ·exact absurd h.2 letsOut_QF
  ·rename_i hw; simp only [hw] at h; exact h
def Rests (P : Program) (ops : Array Oper) (w : World) (o : Oper) (v : Value) (a : Act) : Prop :=
 (Region.wanted o (yielded ops a.tmps) = true ∧ ∀ w',Below w.heap.size w w' → (execOp a.eval o).run P w' = .ok (.value v) w') ∨
 (Region.wanted o (yielded ops a.tmps) = false ∧ v = undef)
theorem Rests.later {w w1 : World} {o : Oper} {v : Value} {a : Act} (h : Rests P ops w o v a) (hb : Below w.heap.size w w1) : Rests P ops w1 o v a := by
 rcases h with ⟨h1,h2⟩ | h
 ·exact .inl ⟨h1,fun w' hb' => h2 w' (below_step hb hb')⟩
 ·exact .inr h
theorem Rests.wpOp {i : Nat} {w : World} {o : Oper} {v : Value} {a : Act} (hi : ops[i]? = some o) (h : Rests P ops w o v a) {K : Act → World → Prop} (hK : K (a.put o.dst v) w) : wpOp P ops Q i K a w := by
 unfold Go.wpOp
 simp only [hi]
 rcases h with ⟨hw,h2⟩ | ⟨hw,rfl⟩
 ·simp only [hw,if_true]
  left
  unfold Oper.wp
  rw [h2 w (Below.refl _ _)]
  exact hK
 ·simp only [hw,Bool.false_eq_true,if_false]; exact hK
theorem Rests.same {w : World} {o : Oper} {v : Value} {a a' : Act} (hy : Rests P ops w o v a) (he : execOp a'.eval o = execOp a.eval o)
  (hw : Region.wanted o (yielded ops a'.tmps) = Region.wanted o (yielded ops a.tmps)) : Rests P ops w o v a' := by
 unfold Rests at *
 rw [he,hw]
 exact hy
theorem eval_defers (a : Act) (ds : List Deferred) : ({ a with defers := ds } : Act).eval = a.eval := by
 funext x; cases x <;> rfl
theorem wpOp_put {j : Nat} {w : World} {oi oj : Oper} {v : Value} (hj : ops[j]? = some oj) (hap : oi.apart ops oj = true) (hsi : ∀ cs b,oi.op ≠ .select cs b) (hsj : ∀ cs b,oj.op ≠ .select cs b) {K : Act → World → Prop} {a : Act}
  (hy : Rests P ops w oi v a) (h : wpOp P ops QF j K (a.put oi.dst v) w) : wpOp P ops QF j (fun a' w' => Rests P ops w oi v a' ∧ K (a'.put oi.dst v) w') a w := by
 obtain ⟨h1,h2,h3⟩ := Oper.apart_spec hap
 have keep : ∀ u,Rests P ops w oi v (a.put oj.dst u) := fun u =>
  hy.same (execOp_put oi hsi a oj.dst u h3) (wanted_put oi a oj.dst u h3)
 have keepD : ∀ (ds : List Deferred) u,Rests P ops w oi v (({ a with defers := ds } : Act).put oj.dst u) := fun ds u => by
  have hy' : Rests P ops w oi v { a with defers := ds } := hy.same (by rw [eval_defers]) rfl
  exact hy'.same (execOp_put oi hsi _ oj.dst u h3) (wanted_put oi _ oj.dst u h3)
 have comm : ∀ (b : Act) u,(b.put oj.dst u).put oi.dst v = (b.put oi.dst v).put oj.dst u := fun b u => (Act.put_comm b v u h2).symm
 unfold wpOp at *
 simp only [hj] at *
 rw [wanted_put oj a oi.dst v h1] at h
 split
 ·rename_i hw
  simp only [hw,if_true] at h
  rcases h with h | h
  ·left
   unfold Oper.wp at *
   rw [execOp_put oj hsj a oi.dst v h1] at h
   generalize (execOp a.eval oj).run P w = r at *
   cases r with
   | ok n w' =>
    cases n <;> simp only [Oper.upon] at h ⊢
    case value u => exact ⟨keep u,by rw [comm]; exact h⟩
    case skip => exact ⟨keep _,by rw [comm]; exact h⟩
    case defer d =>
     refine ⟨keepD _ _,?_⟩
     rw [comm]
     rw [Act.put_defers] at h
     exact h
    case enter f args =>
     exact h.mono fun e w'' he => by
      cases e with
      | returned u => exact ⟨keep u,by rw [comm]; exact he⟩
      | panicked c => exact he
      | outgrown => exact he
    case row r args => exact Rows.mono h fun u w'' he => ⟨keep u,by rw [comm]; exact he⟩
   | halt x w' => cases x <;> simp only [Oper.upon] at h ⊢ <;> exact h
  ·exact absurd h.2 letsOut_QF
 ·rename_i hw
  simp only [hw] at h
  exact ⟨keep _,by rw [comm]; exact h⟩
def wpH (P : Program) (md : Region.Mode) (ops : Array Oper) (n : Nat) (L : Array Bool → Act → World → Prop) : Nat → Array Bool → Act → World → Prop
 | 0,listed,a,w => L listed a w
 | f + 1,listed,a,w =>
  Region.ready md ops listed ≠ [] ∧
  ∀ i ∈ Region.ready md ops listed,i < n ∧ wpOp P ops QF i (fun a' w' => Below w.heap.size w w' ∧ wpH P md ops n L f (listed.setIfInBounds i true) a' w') a w
theorem wpAny_of_H {n g : Nat} {L : Array Bool → Act → World → Prop} (hL : ∀ listed a w,L listed a w → wpAny P md ops Q g listed a w) :
  ∀ (f : Nat) (listed : Array Bool) (a : Act) (w : World),wpH P md ops n L f listed a w → wpAny P md ops Q (f + g) listed a w
 | 0,listed,a,w,h => by rw [Nat.zero_add]; exact hL _ _ _ h
 | f + 1,listed,a,w,h => by
  rw [show f + 1 + g = (f + g) + 1 by omega]
  exact ⟨fun h0 => absurd h0 h.1,fun i hi => wpOp_QF (wpOp_mono (fun a' w' h' => wpAny_of_H hL f _ a' w' h'.2) (h.2 i hi).2)⟩
def TailOk (md : Region.Mode) (ops : Array Oper) (n : Nat) : Prop := ∀ listed,HeadInv md ops n listed → ∀ i,i < n → listed.getD i true = false → ∀ t,n ≤ t → t ∉ Region.ready md ops listed
theorem wpH_first {n i : Nat} {oi : Oper} {v : Value} {L : Array Bool → Act → World → Prop} (hi : ops[i]? = some oi) (hsel : ∀ (j : Nat) (o : Oper) cs b,ops[j]? = some o → o.op ≠ .select cs b)
  (hT : TailOk md ops n) (hin : i < n) (hdone : ∀ listed a w,L listed a w → ∀ j ∈ Region.ready md ops listed,n ≤ j) :
  ∀ (f : Nat) (listed : Array Bool) (a : Act) (w : World),HeadInv md ops n listed →
   (∀ j oj,ops[j]? = some oj → j ≠ i → listed.getD j true = false → (∀ e ∈ oj.after,Region.binds md e = true → e.on ≠ i) → oi.apart ops oj = true) →
   i ∈ Region.ready md ops listed → Rests P ops w oi v a →
   wpH P md ops n L f (listed.setIfInBounds i true) (a.put oi.dst v) w → wpH P md ops n L (f + 1) listed a w := by
 intro f
 induction f with
 | zero =>
  intro listed a w inv _ hr hy H
  have hun := (mem_ready.1 hr).1
  refine ⟨fun h => (by rw [h] at hr; cases hr),fun j hj => ?_⟩
  have hjn : j < n := by
   rcases Nat.lt_or_ge j n with h | h
   ·exact h
   ·exact absurd hj (hT _ inv i hin hun j h)
  refine ⟨hjn,?_⟩
  by_cases hji : j = i
  ·subst hji; exact hy.wpOp hi ⟨Below.refl _ _,H⟩
  ·have := hdone _ _ _ H j (ready_mono hj hji)
   omega
 | succ f ih =>
  intro listed a w inv hfree hr hy H
  have hun := (mem_ready.1 hr).1
  refine ⟨fun h => (by rw [h] at hr; cases hr),fun j hj => ?_⟩
  have hjn : j < n := by
   rcases Nat.lt_or_ge j n with h | h
   ·exact h
   ·exact absurd hj (hT _ inv i hin hun j h)
  refine ⟨hjn,?_⟩
  by_cases hji : j = i
  ·subst hji; exact hy.wpOp hi ⟨Below.refl _ _,H⟩
  ·have h1 := (H.2 j (ready_mono hj hji)).2
   obtain ⟨hjun,oj,hoj,hall⟩ := mem_ready.1 hj
   have hnot : ∀ e ∈ oj.after,Region.binds md e = true → e.on ≠ i := fun e he hb heq => by
    have h1 := hall e he hb
    rw [heq,getD_both hun] at h1
    cases h1
   have h2 := wpOp_put hoj (hfree j oj hoj hji hjun hnot) (fun cs b => hsel i oi cs b hi) (fun cs b => hsel j oj cs b hoj) hy h1
   have hfree' : ∀ k ok,ops[k]? = some ok → k ≠ i → (listed.setIfInBounds j true).getD k true = false →
     (∀ e ∈ ok.after,Region.binds md e = true → e.on ≠ i) → oi.apart ops ok = true := fun k ok hk hki hun hno => by
    refine hfree k ok hk hki ?_ hno
    by_cases hjk : j = k
    ·subst hjk; exact hjun
    ·rw [getD_set_ne true hjk] at hun; exact hun
   refine wpOp_mono (fun a' w' h3 => ⟨h3.2.1,ih (listed.setIfInBounds j true) a' w' (inv.set hj hjn) hfree' (ready_mono hr (Ne.symm hji)) (h3.1.later h3.2.1) ?_⟩) h2
   rw [Array.setIfInBounds_comm _ _ hji]
   exact h3.2.2
def setAll : List Nat → Array Bool → Array Bool
 | [],listed => listed
 | i :: r,listed => setAll r (listed.setIfInBounds i true)
def Region.regB (ops : Array Oper) (n : Nat) : Bool := Region.noSelect ops && (decide (n = ops.size) || (decide (n < ops.size) && Region.sinkB .any ops n && Region.chainB .any ops n))
def Region.chunkB (ops : Array Oper) (n : Nat) : List Nat → Array Bool → Bool
 | [],_ => true
 | i :: r,listed => (Region.ready .any ops listed).contains i && Region.free .any ops listed i && decide (i < n) && ((ops[i]?).map fun o => plainOp o.op).getD false && Region.chunkB ops n r (listed.setIfInBounds i true)
def pickOps (ops : Array Oper) (idx : List Nat) : List Oper := idx.filterMap fun i => ops[i]?
def RW (P : Program) (ops : Array Oper) (Q : Exit → Act → World → Prop) (n f : Nat) (listed : Array Bool) (a : Act) (w : World) : Prop :=
 TailOk .any ops n → Region.noSelect ops = true → HeadInv .any ops n listed →
  wpH P .any ops n (fun listed' a' w' => (∀ j ∈ Region.ready .any ops listed',n ≤ j) ∧ wpAny P .any ops Q (ops.size - n) listed' a' w') f listed a w
theorem TailOk.of {n : Nat} (h : (decide (n = ops.size) || (decide (n < ops.size) && Region.sinkB md ops n && Region.chainB md ops n)) = true) : TailOk md ops n := by
 simp only [Bool.or_eq_true,Bool.and_eq_true,decide_eq_true_eq] at h
 rcases h with h | ⟨⟨h1,h2⟩,h3⟩
 ·intro listed inv i hi hun t ht hr
  obtain ⟨_,ot,hot,_⟩ := mem_ready.1 hr
  have := (Array.getElem?_eq_some_iff.1 hot).1
  omega
 ·intro listed inv i hi hun t ht
  exact tail_waits h2 h3 h1 inv _ i rfl hi hun t ht
theorem RW.chunk {n f : Nat} : ∀ (idx : List Nat) {listed : Array Bool} {a : Act} {w : World},Region.chunkB ops n idx listed = true →
  wpQuiet P ops (fun w' => ∃ x : Later w,w' = x.W) (fun a' => RW P ops Q n f (setAll idx listed) a' w) (pickOps ops idx) a → RW P ops Q n (f + idx.length) listed a w
 | [],listed,a,w,_,h => h
 | i :: r,listed,a,w,hB,h => by
  intro hT hsel inv
  simp only [Region.chunkB,Bool.and_eq_true,decide_eq_true_eq] at hB
  obtain ⟨⟨⟨⟨hr,hf⟩,hin⟩,hp⟩,hB'⟩ := hB
  have hr' : i ∈ Region.ready .any ops listed := by simpa using hr
  obtain ⟨_,o,ho,_⟩ := mem_ready.1 hr'
  rw [ho] at hp
  have hp' : plainOp o.op = true := by simpa using hp
  have hpk : pickOps ops (i :: r) = o :: pickOps ops r := by unfold pickOps; rw [List.filterMap_cons,ho]
  rw [hpk] at h
  have hst : qOp P ops (fun w' => ∃ x : Later w,w' = x.W) i (wpQuiet P ops (fun w' => ∃ x : Later w,w' = x.W) (fun a' => RW P ops Q n f (setAll (i :: r) listed) a' w) (pickOps ops r)) a := by
   unfold qOp; simp only [ho]; exact h
  obtain ⟨v,hy,hK⟩ := yieldsIn_of_qOp ho hst
  have hrest : Rests P ops w o v a := by
   rcases hy with ⟨h1,h2⟩ | ⟨h1,h2⟩
   ·refine .inl ⟨h1,fun w' hb => ?_⟩
    have h3 := h2 w' ⟨⟨w',hb⟩,rfl⟩
    unfold Oper.quietAt at h3
    cases hrun : (execOp a.eval o).run P w' with
    | ok nx w'' =>
     obtain ⟨u,rfl⟩ := plain_value hp' hrun
     rw [hrun] at h3
     obtain ⟨e1,e2⟩ := h3
     rw [e1,e2]
    | halt x w'' => rw [hrun] at h3; exact h3.elim
   ·exact .inr ⟨h1,h2⟩
  have hrec := RW.chunk (f := f) r hB' hK hT hsel (inv.set hr' hin)
  exact wpH_first ho (Region.noSelect_spec hsel) hT hin (fun _ _ _ hL => hL.1) _ listed a w inv (Region.free_spec ho hf) hr' hrest hrec
theorem RW.single {n f : Nat} {listed : Array Bool} {a : Act} {w : World} (i : Nat) {o : Oper} (ho : ops[i]? = some o) (hr : Region.ready .any ops listed = [i]) (hin : i < n)
  (h : ∀ K : Act → World → Prop,(∀ a' w',Below w.heap.size w w' → RW P ops Q n f (listed.setIfInBounds i true) a' w' → K a' w') → wpList P ops (Exit.then K QF) [o] a w) : RW P ops Q n (f + 1) listed a w := by
 intro hT hsel inv
 refine ⟨fun h0 => (by rw [hr] at h0; cases h0),fun j hj => ?_⟩
 rw [hr] at hj
 have hji : j = i := by simpa using hj
 subst hji
 refine ⟨hin,?_⟩
 have h1 := h (fun a' w' => Below w.heap.size w w' ∧ wpH P .any ops n (fun listed' a' w' => (∀ j ∈ Region.ready .any ops listed',n ≤ j) ∧ wpAny P .any ops Q (ops.size - n) listed' a' w') f (listed.setIfInBounds j true) a' w') (fun a' w' hb h' => ⟨hb,h' hT hsel (inv.set (by rw [hr]; simp) hin)⟩)
 unfold wpOp
 simp only [ho]
 simp only [wpList] at h1
 split
 ·rename_i hw
  simp only [hw,if_true] at h1
  rcases h1 with h1 | h1
  ·left
   unfold Oper.wp at *
   generalize (execOp a.eval o).run P w = r at *
   cases r with
   | ok nx w' =>
    cases nx <;> simp only [Oper.upon,Exit.then] at h1 ⊢ <;> exact h1
   | halt x w' => cases x <;> simp only [Oper.upon,Exit.then] at h1 ⊢ <;> exact h1
  ·obtain ⟨_,_,_,h⟩ := h1; exact h.elim
 ·rename_i hw
  simp only [hw] at h1
  exact h1
theorem RW.both {n f : Nat} {listed : Array Bool} {a : Act} {w : World} (i j : Nat) {oi oj : Oper} (hi : ops[i]? = some oi) (hj : ops[j]? = some oj) (hr : Region.ready .any ops listed = [i,j]) (hin : i < n) (hjn : j < n)
  (h1 : ∀ K : Act → World → Prop,(∀ a' w',Below w.heap.size w w' → RW P ops Q n f (listed.setIfInBounds i true) a' w' → K a' w') → wpList P ops (Exit.then K QF) [oi] a w)
  (h2 : ∀ K : Act → World → Prop,(∀ a' w',Below w.heap.size w w' → RW P ops Q n f (listed.setIfInBounds j true) a' w' → K a' w') → wpList P ops (Exit.then K QF) [oj] a w) : RW P ops Q n (f + 1) listed a w := by
 intro hT hsel inv
 have key : ∀ (k : Nat) (o : Oper),ops[k]? = some o → k ∈ Region.ready .any ops listed → k < n →
   (∀ K : Act → World → Prop,(∀ a' w',Below w.heap.size w w' → RW P ops Q n f (listed.setIfInBounds k true) a' w' → K a' w') → wpList P ops (Exit.then K QF) [o] a w) →
   wpOp P ops QF k (fun a' w' => Below w.heap.size w w' ∧ wpH P .any ops n (fun listed' a' w' => (∀ j ∈ Region.ready .any ops listed',n ≤ j) ∧ wpAny P .any ops Q (ops.size - n) listed' a' w') f (listed.setIfInBounds k true) a' w') a w := by
  intro k o ho hk hkn h
  have h1 := h (fun a' w' => Below w.heap.size w w' ∧ wpH P .any ops n (fun listed' a' w' => (∀ j ∈ Region.ready .any ops listed',n ≤ j) ∧ wpAny P .any ops Q (ops.size - n) listed' a' w') f (listed.setIfInBounds k true) a' w') (fun a' w' hb h' => ⟨hb,h' hT hsel (inv.set hk hkn)⟩)
  unfold wpOp
  simp only [ho]
  simp only [wpList] at h1
  split
  ·rename_i hw
   simp only [hw,if_true] at h1
   rcases h1 with h1 | h1
   ·left
    unfold Oper.wp at *
    generalize (execOp a.eval o).run P w = r at *
    cases r with
    | ok nx w' =>
     cases nx <;> simp only [Oper.upon,Exit.then] at h1 ⊢ <;> exact h1
    | halt x w' => cases x <;> simp only [Oper.upon,Exit.then] at h1 ⊢ <;> exact h1
   ·obtain ⟨_,_,_,h⟩ := h1; exact h.elim
  ·rename_i hw
   simp only [hw] at h1
   exact h1
 refine ⟨fun h0 => (by rw [hr] at h0; cases h0),fun k hk => ?_⟩
 have hk' := hk
 rw [hr] at hk'
 simp only [List.mem_cons,List.not_mem_nil,or_false] at hk'
 rcases hk' with rfl | rfl
 ·exact ⟨hin,key _ _ hi hk hin h1⟩
 ·exact ⟨hjn,key _ _ hj hk hjn h2⟩
theorem RW.tail {l : List Oper} {n : Nat} {listed : Array Bool} {a : Act} {w : World} (hB : Region.seqB .any l.toArray (l.length - n) n listed = true) (h : wpList P l.toArray Q (l.drop n) a w) : RW P l.toArray Q n 0 listed a w := by
 intro hT hsel inv
 refine ⟨seqB_ready hB,?_⟩
 have hdl : (l.drop n).length = l.toArray.size - n := by simp
 have := wpAny_of_seq (md := .any) (Q' := Q) (l.drop n) n listed a w (fun j => by simp [List.getElem?_drop]) (by rw [hdl]; simpa using hB) h
 rwa [hdl] at this
theorem RW.done {n : Nat} {listed : Array Bool} {a : Act} {w : World} (hn : ops.size - n = 0) (hB : Region.ready .any ops listed = []) (h : Q .normal a w) : RW P ops Q n 0 listed a w := by
 intro hT hsel inv
 refine ⟨fun j hj => (by rw [hB] at hj; cases hj),?_⟩
 rw [hn]
 exact ⟨hB,h⟩
theorem wp_region_RW {id : Nat} {a : Act} {w : World} {l : List Oper} (n : Nat) (hm : P.follows .mixedOrders = true) (hB : Region.regB l.toArray n = true)
  (h : RW P l.toArray Q n n (Array.replicate l.length false) a w.drew) : (Code.region id l.toArray true).wp P Q a w := by
 simp only [Region.regB,Bool.and_eq_true] at hB
 have hT := TailOk.of hB.2
 have hn : n ≤ l.length := by
  have := hB.2
  simp only [Bool.or_eq_true,Bool.and_eq_true,decide_eq_true_eq] at this
  rcases this with h | ⟨⟨h,_⟩,_⟩
  ·simp at h; omega
  ·simp at h; omega
 have inv0 : HeadInv .any l.toArray n (Array.replicate l.length false) :=
  ⟨by simp,fun j oj _ hl => (by rw [getD_replicate_false] at hl; cases hl),fun t _ ht => getD_in (by simpa using ht) (getD_replicate_false _ _)⟩
 refine wp_region_any hm ?_
 have := wpAny_of_H (Q := Q) (g := l.toArray.size - n) (fun listed a' w' hL => hL.2) _ _ _ _ (h hT hB.1 inv0)
 rw [show n + (l.toArray.size - n) = l.toArray.size by simp; omega] at this
 simpa using this
end
section
variable {P : Program} {ops : Array Oper} {md : Region.Mode} {Q : Exit → Act → World → Prop} {w0 : World}
theorem wpOp_putZ {j : Nat} {w : World} {oi oj : Oper} {v : Value} (hj : ops[j]? = some oj) (hap : oi.apart ops oj = true) (hsi : ∀ cs b,oi.op ≠ .select cs b) (hsj : ∀ cs b,oj.op ≠ .select cs b) {K : Act → World → Prop} {a : Act}
  (hy : Rests P ops w0 oi v a) (h : wpOp P ops QF j K (a.put oi.dst v) w) : wpOp P ops QF j (fun a' w' => Rests P ops w0 oi v a' ∧ K (a'.put oi.dst v) w') a w := by
 obtain ⟨h1,h2,h3⟩ := Oper.apart_spec hap
 have keep : ∀ u,Rests P ops w0 oi v (a.put oj.dst u) := fun u =>
  hy.same (execOp_put oi hsi a oj.dst u h3) (wanted_put oi a oj.dst u h3)
 have keepD : ∀ (ds : List Deferred) u,Rests P ops w0 oi v (({ a with defers := ds } : Act).put oj.dst u) := fun ds u => by
  have hy' : Rests P ops w0 oi v { a with defers := ds } := hy.same (by rw [eval_defers]) rfl
  exact hy'.same (execOp_put oi hsi _ oj.dst u h3) (wanted_put oi _ oj.dst u h3)
 have comm : ∀ (b : Act) u,(b.put oj.dst u).put oi.dst v = (b.put oi.dst v).put oj.dst u := fun b u => (Act.put_comm b v u h2).symm
 unfold wpOp at *
 simp only [hj] at *
 rw [wanted_put oj a oi.dst v h1] at h
 split
 ·rename_i hw
  simp only [hw,if_true] at h
  rcases h with h | h
  ·left
   unfold Oper.wp at *
   rw [execOp_put oj hsj a oi.dst v h1] at h
   generalize (execOp a.eval oj).run P w = r at *
   cases r with
   | ok n w' =>
    cases n <;> simp only [Oper.upon] at h ⊢
    case value u => exact ⟨keep u,by rw [comm]; exact h⟩
    case skip => exact ⟨keep _,by rw [comm]; exact h⟩
    case defer d =>
     refine ⟨keepD _ _,?_⟩
     rw [comm]
     rw [Act.put_defers] at h
     exact h
    case enter f args =>
     exact h.mono fun e w'' he => by
      cases e with
      | returned u => exact ⟨keep u,by rw [comm]; exact he⟩
      | panicked c => exact he
      | outgrown => exact he
    case row r args => exact Rows.mono h fun u w'' he => ⟨keep u,by rw [comm]; exact he⟩
   | halt x w' => cases x <;> simp only [Oper.upon] at h ⊢ <;> exact h
  ·exact absurd h.2 letsOut_QF
 ·rename_i hw
  simp only [hw] at h
  exact ⟨keep _,by rw [comm]; exact h⟩
def wpZ (P : Program) (w0 : World) (md : Region.Mode) (ops : Array Oper) (n : Nat) (L : Array Bool → Act → World → Prop) : Nat → Array Bool → Act → World → Prop
 | 0,listed,a,w => L listed a w
 | f + 1,listed,a,w =>
  Region.ready md ops listed ≠ [] ∧
  ∀ i ∈ Region.ready md ops listed,i < n ∧ wpOp P ops QF i (fun a' w' => Below w0.heap.size w0 w' ∧ wpZ P w0 md ops n L f (listed.setIfInBounds i true) a' w') a w
theorem wpAny_of_Z {n g : Nat} {L : Array Bool → Act → World → Prop} (hL : ∀ listed a w,L listed a w → wpAny P md ops Q g listed a w) :
  ∀ (f : Nat) (listed : Array Bool) (a : Act) (w : World),wpZ P w0 md ops n L f listed a w → wpAny P md ops Q (f + g) listed a w
 | 0,listed,a,w,h => by rw [Nat.zero_add]; exact hL _ _ _ h
 | f + 1,listed,a,w,h => by
  rw [show f + 1 + g = (f + g) + 1 by omega]
  exact ⟨fun h0 => absurd h0 h.1,fun i hi => wpOp_QF (wpOp_mono (fun a' w' h' => wpAny_of_Z hL f _ a' w' h'.2) (h.2 i hi).2)⟩
theorem wpZ_first {n i : Nat} {oi : Oper} {v : Value} {L : Array Bool → Act → World → Prop} (hi : ops[i]? = some oi) (hsel : ∀ (j : Nat) (o : Oper) cs b,ops[j]? = some o → o.op ≠ .select cs b)
  (hT : TailOk md ops n) (hin : i < n) (hdone : ∀ listed a w,L listed a w → ∀ j ∈ Region.ready md ops listed,n ≤ j) :
  ∀ (f : Nat) (listed : Array Bool) (a : Act) (w : World),HeadInv md ops n listed → Below w0.heap.size w0 w →
   (∀ j oj,ops[j]? = some oj → j ≠ i → listed.getD j true = false → (∀ e ∈ oj.after,Region.binds md e = true → e.on ≠ i) → oi.apart ops oj = true) →
   i ∈ Region.ready md ops listed → Rests P ops w0 oi v a →
   wpZ P w0 md ops n L f (listed.setIfInBounds i true) (a.put oi.dst v) w → wpZ P w0 md ops n L (f + 1) listed a w := by
 intro f
 induction f with
 | zero =>
  intro listed a w inv hbw _ hr hy H
  have hun := (mem_ready.1 hr).1
  refine ⟨fun h => (by rw [h] at hr; cases hr),fun j hj => ?_⟩
  have hjn : j < n := by
   rcases Nat.lt_or_ge j n with h | h
   ·exact h
   ·exact absurd hj (hT _ inv i hin hun j h)
  refine ⟨hjn,?_⟩
  by_cases hji : j = i
  ·subst hji; exact (hy.later hbw).wpOp hi ⟨hbw,H⟩
  ·have := hdone _ _ _ H j (ready_mono hj hji)
   omega
 | succ f ih =>
  intro listed a w inv hbw hfree hr hy H
  have hun := (mem_ready.1 hr).1
  refine ⟨fun h => (by rw [h] at hr; cases hr),fun j hj => ?_⟩
  have hjn : j < n := by
   rcases Nat.lt_or_ge j n with h | h
   ·exact h
   ·exact absurd hj (hT _ inv i hin hun j h)
  refine ⟨hjn,?_⟩
  by_cases hji : j = i
  ·subst hji; exact (hy.later hbw).wpOp hi ⟨hbw,H⟩
  ·have h1 := (H.2 j (ready_mono hj hji)).2
   obtain ⟨hjun,oj,hoj,hall⟩ := mem_ready.1 hj
   have hnot : ∀ e ∈ oj.after,Region.binds md e = true → e.on ≠ i := fun e he hb heq => by
    have h1 := hall e he hb
    rw [heq,getD_both hun] at h1
    cases h1
   have h2 := wpOp_putZ hoj (hfree j oj hoj hji hjun hnot) (fun cs b => hsel i oi cs b hi) (fun cs b => hsel j oj cs b hoj) hy h1
   have hfree' : ∀ k ok,ops[k]? = some ok → k ≠ i → (listed.setIfInBounds j true).getD k true = false →
     (∀ e ∈ ok.after,Region.binds md e = true → e.on ≠ i) → oi.apart ops ok = true := fun k ok hk hki hun hno => by
    refine hfree k ok hk hki ?_ hno
    by_cases hjk : j = k
    ·subst hjk; exact hjun
    ·rw [getD_set_ne true hjk] at hun; exact hun
   refine wpOp_mono (fun a' w' h3 => ⟨h3.2.1,ih (listed.setIfInBounds j true) a' w' (inv.set hj hjn) h3.2.1 hfree' (ready_mono hr (Ne.symm hji)) h3.1 ?_⟩) h2
   rw [Array.setIfInBounds_comm _ _ hji]
   exact h3.2.2
def RZ (P : Program) (w0 : World) (ops : Array Oper) (Q : Exit → Act → World → Prop) (n f : Nat) (listed : Array Bool) (a : Act) (w : World) : Prop :=
 Below w0.heap.size w0 w → TailOk .any ops n → Region.noSelect ops = true → HeadInv .any ops n listed →
  wpZ P w0 .any ops n (fun listed' a' w' => (∀ j ∈ Region.ready .any ops listed',n ≤ j) ∧ wpAny P .any ops Q (ops.size - n) listed' a' w') f listed a w
theorem RZ.chunk {n f : Nat} : ∀ (idx : List Nat) {listed : Array Bool} {a : Act} {w : World},Region.chunkB ops n idx listed = true →
  wpQuiet P ops (fun w' => ∃ x : Later w0,w' = x.W) (fun a' => RZ P w0 ops Q n f (setAll idx listed) a' w) (pickOps ops idx) a → RZ P w0 ops Q n (f + idx.length) listed a w
 | [],listed,a,w,_,h => h
 | i :: r,listed,a,w,hB,h => by
  intro hbw hT hsel inv
  simp only [Region.chunkB,Bool.and_eq_true,decide_eq_true_eq] at hB
  obtain ⟨⟨⟨⟨hr,hf⟩,hin⟩,hp⟩,hB'⟩ := hB
  have hr' : i ∈ Region.ready .any ops listed := by simpa using hr
  obtain ⟨_,o,ho,_⟩ := mem_ready.1 hr'
  rw [ho] at hp
  have hp' : plainOp o.op = true := by simpa using hp
  have hpk : pickOps ops (i :: r) = o :: pickOps ops r := by unfold pickOps; rw [List.filterMap_cons,ho]
  rw [hpk] at h
  have hst : qOp P ops (fun w' => ∃ x : Later w0,w' = x.W) i (wpQuiet P ops (fun w' => ∃ x : Later w0,w' = x.W) (fun a' => RZ P w0 ops Q n f (setAll (i :: r) listed) a' w) (pickOps ops r)) a := by
   unfold qOp; simp only [ho]; exact h
  obtain ⟨v,hy,hK⟩ := yieldsIn_of_qOp ho hst
  have hrest : Rests P ops w0 o v a := by
   rcases hy with ⟨h1,h2⟩ | ⟨h1,h2⟩
   ·refine .inl ⟨h1,fun w' hb => ?_⟩
    have h3 := h2 w' ⟨⟨w',hb⟩,rfl⟩
    unfold Oper.quietAt at h3
    cases hrun : (execOp a.eval o).run P w' with
    | ok nx w'' =>
     obtain ⟨u,rfl⟩ := plain_value hp' hrun
     rw [hrun] at h3
     obtain ⟨e1,e2⟩ := h3
     rw [e1,e2]
    | halt x w'' => rw [hrun] at h3; exact h3.elim
   ·exact .inr ⟨h1,h2⟩
  have hrec := RZ.chunk (f := f) r hB' hK hbw hT hsel (inv.set hr' hin)
  exact wpZ_first ho (Region.noSelect_spec hsel) hT hin (fun _ _ _ hL => hL.1) _ listed a w inv hbw (Region.free_spec ho hf) hr' hrest hrec
theorem RZ.single {n f : Nat} {listed : Array Bool} {a : Act} {w : World} (i : Nat) {o : Oper} (ho : ops[i]? = some o) (hr : Region.ready .any ops listed = [i]) (hin : i < n)
  (h : ∀ K : Act → World → Prop,(∀ a' w',Below w0.heap.size w0 w' → RZ P w0 ops Q n f (listed.setIfInBounds i true) a' w' → K a' w') → wpList P ops (Exit.then K QF) [o] a w) : RZ P w0 ops Q n (f + 1) listed a w := by
 intro hbw hT hsel inv
 refine ⟨fun h0 => (by rw [hr] at h0; cases h0),fun j hj => ?_⟩
 rw [hr] at hj
 have hji : j = i := by simpa using hj
 subst hji
 refine ⟨hin,?_⟩
 have h1 := h (fun a' w' => Below w0.heap.size w0 w' ∧ wpZ P w0 .any ops n (fun listed' a' w' => (∀ j ∈ Region.ready .any ops listed',n ≤ j) ∧ wpAny P .any ops Q (ops.size - n) listed' a' w') f (listed.setIfInBounds j true) a' w') (fun a' w' hb h' => ⟨hb,h' hb hT hsel (inv.set (by rw [hr]; simp) hin)⟩)
 unfold wpOp
 simp only [ho]
 simp only [wpList] at h1
 split
 ·rename_i hw
  simp only [hw,if_true] at h1
  rcases h1 with h1 | h1
  ·left
   unfold Oper.wp at *
   generalize (execOp a.eval o).run P w = r at *
   cases r with
   | ok nx w' =>
    cases nx <;> simp only [Oper.upon,Exit.then] at h1 ⊢ <;> exact h1
   | halt x w' => cases x <;> simp only [Oper.upon,Exit.then] at h1 ⊢ <;> exact h1
  ·obtain ⟨_,_,_,h⟩ := h1; exact h.elim
 ·rename_i hw
  simp only [hw] at h1
  exact h1
theorem RZ.both {n f : Nat} {listed : Array Bool} {a : Act} {w : World} (i j : Nat) {oi oj : Oper} (hi : ops[i]? = some oi) (hj : ops[j]? = some oj) (hr : Region.ready .any ops listed = [i,j]) (hin : i < n) (hjn : j < n)
  (h1 : ∀ K : Act → World → Prop,(∀ a' w',Below w0.heap.size w0 w' → RZ P w0 ops Q n f (listed.setIfInBounds i true) a' w' → K a' w') → wpList P ops (Exit.then K QF) [oi] a w)
  (h2 : ∀ K : Act → World → Prop,(∀ a' w',Below w0.heap.size w0 w' → RZ P w0 ops Q n f (listed.setIfInBounds j true) a' w' → K a' w') → wpList P ops (Exit.then K QF) [oj] a w) : RZ P w0 ops Q n (f + 1) listed a w := by
 intro hbw hT hsel inv
 have key : ∀ (k : Nat) (o : Oper),ops[k]? = some o → k ∈ Region.ready .any ops listed → k < n →
   (∀ K : Act → World → Prop,(∀ a' w',Below w0.heap.size w0 w' → RZ P w0 ops Q n f (listed.setIfInBounds k true) a' w' → K a' w') → wpList P ops (Exit.then K QF) [o] a w) →
   wpOp P ops QF k (fun a' w' => Below w0.heap.size w0 w' ∧ wpZ P w0 .any ops n (fun listed' a' w' => (∀ j ∈ Region.ready .any ops listed',n ≤ j) ∧ wpAny P .any ops Q (ops.size - n) listed' a' w') f (listed.setIfInBounds k true) a' w') a w := by
  intro k o ho hk hkn h
  have h1 := h (fun a' w' => Below w0.heap.size w0 w' ∧ wpZ P w0 .any ops n (fun listed' a' w' => (∀ j ∈ Region.ready .any ops listed',n ≤ j) ∧ wpAny P .any ops Q (ops.size - n) listed' a' w') f (listed.setIfInBounds k true) a' w') (fun a' w' hb h' => ⟨hb,h' hb hT hsel (inv.set hk hkn)⟩)
  unfold wpOp
  simp only [ho]
  simp only [wpList] at h1
  split
  ·rename_i hw
   simp only [hw,if_true] at h1
   rcases h1 with h1 | h1
   ·left
    unfold Oper.wp at *
    generalize (execOp a.eval o).run P w = r at *
    cases r with
    | ok nx w' =>
     cases nx <;> simp only [Oper.upon,Exit.then] at h1 ⊢ <;> exact h1
    | halt x w' => cases x <;> simp only [Oper.upon,Exit.then] at h1 ⊢ <;> exact h1
   ·obtain ⟨_,_,_,h⟩ := h1; exact h.elim
  ·rename_i hw
   simp only [hw] at h1
   exact h1
 refine ⟨fun h0 => (by rw [hr] at h0; cases h0),fun k hk => ?_⟩
 have hk' := hk
 rw [hr] at hk'
 simp only [List.mem_cons,List.not_mem_nil,or_false] at hk'
 rcases hk' with rfl | rfl
 ·exact ⟨hin,key _ _ hi hk hin h1⟩
 ·exact ⟨hjn,key _ _ hj hk hjn h2⟩
theorem RZ.tail {l : List Oper} {n : Nat} {listed : Array Bool} {a : Act} {w : World} (hB : Region.seqB .any l.toArray (l.length - n) n listed = true) (h : wpList P l.toArray Q (l.drop n) a w) : RZ P w0 l.toArray Q n 0 listed a w := by
 intro hbw hT hsel inv
 refine ⟨seqB_ready hB,?_⟩
 have hdl : (l.drop n).length = l.toArray.size - n := by simp
 have := wpAny_of_seq (md := .any) (Q' := Q) (l.drop n) n listed a w (fun j => by simp [List.getElem?_drop]) (by rw [hdl]; simpa using hB) h
 rwa [hdl] at this
theorem RZ.done {n : Nat} {listed : Array Bool} {a : Act} {w : World} (hn : ops.size - n = 0) (hB : Region.ready .any ops listed = []) (h : Q .normal a w) : RZ P w0 ops Q n 0 listed a w := by
 intro hbw hT hsel inv
 refine ⟨fun j hj => (by rw [hB] at hj; cases hj),?_⟩
 rw [hn]
 exact ⟨hB,h⟩
theorem wp_region_RZ {id : Nat} {a : Act} {w : World} {l : List Oper} (n : Nat) (hm : P.follows .mixedOrders = true) (hB : Region.regB l.toArray n = true)
  (h : RZ P w.drew l.toArray Q n n (Array.replicate l.length false) a w.drew) : (Code.region id l.toArray true).wp P Q a w := by
 simp only [Region.regB,Bool.and_eq_true] at hB
 have hT := TailOk.of hB.2
 have hn : n ≤ l.length := by
  have := hB.2
  simp only [Bool.or_eq_true,Bool.and_eq_true,decide_eq_true_eq] at this
  rcases this with h | ⟨⟨h,_⟩,_⟩
  ·simp at h; omega
  ·simp at h; omega
 have inv0 : HeadInv .any l.toArray n (Array.replicate l.length false) :=
  ⟨by simp,fun j oj _ hl => (by rw [getD_replicate_false] at hl; cases hl),fun t _ ht => getD_in (by simpa using ht) (getD_replicate_false _ _)⟩
 refine wp_region_any hm ?_
 have := wpAny_of_Z (Q := Q) (g := l.toArray.size - n) (fun listed a' w' hL => hL.2) _ _ _ _ (h (Below.refl _ _) hT hB.1 inv0)
 rw [show n + (l.toArray.size - n) = l.toArray.size by simp; omega] at this
 simpa using this
end
theorem flatMap_get {α : Type} {cells : α → List Value} {size : Nat} (hsz : ∀ x,(cells x).length = size) (hp : 0 < size) : ∀ (l : List α) (j : Nat) (u : Value),(l.flatMap cells)[j]? = some u → ∃ i r x,j = i * size + r ∧ r < size ∧ l[i]? = some x ∧ (cells x)[r]? = some u
 | [],j,u,h => by simp at h
 | y :: l,j,u,h => by
  rw [List.flatMap_cons] at h
  rcases Nat.lt_or_ge j size with hj | hj
  ·rw [List.getElem?_append_left (by rw [hsz]; exact hj)] at h
   exact ⟨0,j,y,by omega,hj,rfl,h⟩
  ·rw [List.getElem?_append_right (by rw [hsz]; exact hj),hsz] at h
   obtain ⟨i,r,x,h1,h2,h3,h4⟩ := flatMap_get hsz hp l (j - size) u h
   exact ⟨i + 1,r,x,by rw [Nat.succ_mul]; omega,h2,by simpa using h3,h4⟩
theorem flatMap_at {α : Type} {cells : α → List Value} {size : Nat} (hsz : ∀ x,(cells x).length = size) : ∀ (l : List α) (i : Nat) (hi : i < l.length) (j : Nat) (u : Value),(cells l[i])[j]? = some u → (l.flatMap cells)[i * size + j]? = some u
 | [],i,hi,j,u,h => by simp at hi
 | z :: r,0,hi,j,u,h => by
  have hj : j < (cells z).length := (List.getElem?_eq_some_iff.1 h).1
  rw [Nat.zero_mul,Nat.zero_add,List.flatMap_cons,List.getElem?_append_left hj]
  exact h
 | z :: r,i + 1,hi,j,u,h => by
  rw [List.flatMap_cons,List.getElem?_append_right (by rw [hsz,Nat.succ_mul]; omega),hsz]
  have e2 : (i + 1) * size + j - size = i * size + j := by rw [Nat.succ_mul]; omega
  rw [e2]
  exact flatMap_at hsz r i (by simpa using hi) j u (by simpa using h)
section
variable {α : Type} {L : Lay α} {cells : α → List Value} {size base : Nat} {e : TypeId} {w w' : World} {v : Value} {l : List α}
theorem Sl.news {ad : Addr} (hL : ∀ x vs,L.rep w x vs → vs = cells x) (hs : L.size = size) (hc : CellsOk cells size) (hp : 0 < size) (h : Sl L w (some ad) l) : ∀ j u,(l.flatMap cells)[j]? = some u → w.cell? (ad.add j) = some u := by
 intro j u hj
 obtain ⟨i,r,x,h1,h2,h3,h4⟩ := flatMap_get hc.len hp l j u hj
 obtain ⟨b,o,vs,e,hlt,hr,hcell⟩ := h i x h3
 obtain rfl : ad = ⟨b,o,none⟩ := by injection e
 obtain rfl := hL x vs hr
 have := hcell r u h4
 rw [hs] at this
 rw [add_form,h1,← Nat.add_assoc]
 exact this
theorem Sl.none_nil (h : Sl L w none l) : l = [] := by
 cases l with
 | nil => rfl
 | cons x l => obtain ⟨b,o,vs,e,_⟩ := h 0 x rfl; cases e
theorem run_append_none0 {P : Program} (t ty e : TypeId) (i : TypeInfo) (size c : Nat) (ht : P.underlying t = some (.slice e)) (hi : P.info? e = some i)
  (v : Value) (n : Nat) (xs : List Value) (hown : w.ownsRow base e size v n xs) :
  (Builtin.append_ #[t,t] ty #[v,.slice none 0 c]).run P w = .ok v w := by
 rcases hown.2 with ⟨rfl,rfl⟩ | ⟨g,cap,cur,rfl,_,_,hnc,_⟩
 ·simp [Builtin.append_,run_underlying ht,sizeOf,typeInfo,hi,Builtin.lenOf,Builtin.firstCells]
 ·simp [Builtin.append_,run_underlying ht,sizeOf,typeInfo,hi,Builtin.lenOf,Builtin.firstCells,hnc,storeCells]
theorem run_pushAll {P : Program} {t : TypeId} {bytes : Nat} {z : Value} (T : ElemTy P t e size bytes z) (hc : CellsOk cells size) (ty : TypeId) (hown : Own cells size base e w v l) {A : Option Addr} {c : Nat} {l2 : List α}
  (hL : ∀ x vs,L.rep w x vs → vs = cells x) (hs : L.size = size) (h2 : Sl L w A l2) (h63 : l.length + l2.length ≤ maxLen) (hbytes : (l.length + l2.length) * bytes ≤ 140737488355328) (hbase : base ≤ w.heap.size) :
  ∃ v' w',(Builtin.append_ #[t,t] ty #[v,.slice A l2.length c]).run P w = .ok v' w' ∧ Own cells size base e w' v' (l ++ l2) ∧ Below base w w' ∧ w.grownBy w' v.ownBlock ∧ w.heap.size ≤ w'.heap.size := by
 obtain ⟨i,hi,hz,hsz,hby⟩ := info_parts T.info
 cases A with
 | none =>
  obtain rfl := h2.none_nil
  refine ⟨v,w,run_append_none0 t ty e i size c T.under hi v l.length (l.flatMap cells) hown,by rw [List.append_nil]; exact hown,Below.refl _ _,⟨rfl,rfl,rfl,Nat.le_refl _,fun _ _ _ => rfl⟩,Nat.le_refl _⟩
 | some ad =>
  have hlen : (l2.flatMap cells).length = l2.length * size := by
   clear h2 h63 hbytes
   induction l2 with
   | nil => simp
   | cons x l2 ih => rw [List.flatMap_cons,List.length_append,ih,hc.len,List.length_cons,Nat.succ_mul]; omega
  obtain ⟨v',w',hr,ho,hg,_,_⟩ := run_append_own_at (P := P) w base t ty e i z size bytes T.under hi hz hsz hby T.zero T.pos v l.length (l.flatMap cells) hown ad l2.length c (l2.flatMap cells) hlen
   (h2.news hL hs hc T.pos) (fun u hu => by
    obtain ⟨x,_,hx⟩ := List.mem_flatMap.1 hu
    exact hc.one x u hx) h63 hbytes hbase
  refine ⟨v',w',hr,?_,(Below.refl _ _).grown hg hbase fun k hk => (hown.lt k hk).1,hg,hg.size⟩
  unfold Own
  rw [List.flatMap_append,List.length_append]
  exact ho
theorem run_push {P : Program} {t : TypeId} {bytes : Nat} {z : Value} (T : ElemTy P t e size bytes z) (hc : CellsOk cells size) (ty : TypeId) (hown : Own cells size base e w v l) (y : α) (g c : Nat)
  (hy : ∀ j u,(cells y)[j]? = some u → w.cell? ⟨g,j,none⟩ = some u) (h63 : l.length + 1 ≤ maxLen) (hbytes : (l.length + 1) * bytes ≤ 140737488355328) (hbase : base ≤ w.heap.size) :
  ∃ v' w',(Builtin.append_ #[t,t] ty #[v,.slice (some ⟨g,0,none⟩) 1 c]).run P w = .ok v' w' ∧ Own cells size base e w' v' (l ++ [y]) ∧ Below base w w' ∧ w.grownBy w' v.ownBlock ∧ w.heap.size ≤ w'.heap.size := by
 obtain ⟨i,hi,hz,hsz,hby⟩ := info_parts T.info
 obtain ⟨v',w',hr,ho,hg,_,_⟩ := run_append_own_at (P := P) w base t ty e i z size bytes T.under hi hz hsz hby T.zero T.pos v l.length (l.flatMap cells) hown ⟨g,0,none⟩ 1 c (cells y)
  (by rw [hc.len,Nat.one_mul]) (fun j u hu => by rw [add_form,Nat.zero_add]; exact hy j u hu) (hc.one y) h63 hbytes hbase
 refine ⟨v',w',hr,?_,(Below.refl _ _).grown hg hbase fun k hk => (hown.lt k hk).1,hg,hg.size⟩
 unfold Own
 rw [List.flatMap_append,List.length_append,List.flatMap_singleton]
 exact ho
theorem wpList_appendRun {P : Program} {ops : Array Oper} {rest : List Oper} {o : Oper} {a : Act} {Q : Exit → Act → World → Prop} (hgd : o.guard = none) (s x : Operand) (t : TypeId)
  (ho : o.op = .call { callee := .builtin .append,args := #[s,x],argTypes := #[t,t] }) {u v' : Value} (hs : a.eval s = v) (hx : a.eval x = u) (hrun : (Builtin.append_ #[t,t] o.type #[v,u]).run P w = .ok v' w')
  (h : wpList P ops Q rest (a.put o.dst v') w') : wpList P ops Q (o :: rest) a w := by
 refine wpList_plain hgd fun K hK => ?_
 unfold Oper.wp
 simp [execOp,ho,resolve,invoke,builtin,hs,hx,hrun,Result.andThen]
 exact hK _ _ h
theorem Own.kept {row : Option Nat} (h : Own cells size base e w v l) (hg : w.grownBy w' row) (hne : ∀ b,row = some b → v.ownBlock ≠ some b) : Own cells size base e w' v l := by
 refine World.ownsRow.kept h hg ?_
 cases hv : v.ownBlock with
 | none => exact Or.inl rfl
 | some g => exact Or.inr fun h => hne g h.symm (hv ▸ rfl)
theorem Own.slR {β : Type} {M : Lay β} {k : List β} (h : Own cells size base e w v l) (hc : CellsOk cells size) (hs : M.size = size) (hl : l.length = k.length) (hr : ∀ (i : Nat) x y,l[i]? = some x → k[i]? = some y → M.rep w y (cells x)) :
  ∃ A c,v = .slice A k.length c ∧ k.length ≤ c ∧ Sl M w A k := by
 subst hs
 rcases h.2 with ⟨rfl,h0⟩ | ⟨g,cap,cur,rfl,hbg,hh,hcap,_⟩
 ·have : k = [] := List.eq_nil_of_length_eq_zero (by omega)
  subst this
  exact ⟨none,0,rfl,Nat.le_refl _,Sl.nil⟩
 ·refine ⟨_,cap,by rw [hl],by omega,fun i y hy => ?_⟩
  have hi : i < l.length := by have := (List.getElem?_eq_some_iff.1 hy).1; omega
  have hx := List.getElem?_eq_getElem hi
  have hlt : g < w.heap.size := (Array.getElem?_eq_some_iff.1 hh).1
  refine ⟨g,0,cells l[i],rfl,hlt,hr i _ y hx hy,fun j u hj => ?_⟩
  have hcell := World.ownsRow.cells h (g := g) rfl (i * M.size + j) u
  rw [add_form] at hcell
  rw [Nat.add_assoc]
  exact hcell (flatMap_at hc.len l i hi j u hj)
end
structure MapTy {α β : Type} (P : Program) (t k e : TypeId) (κ : α → Value) (okk : α → Prop) (lit : α → Lit) (ν : β → Value) (okv : β → Prop) (dat : β → DataW Unit) (zero : β) : Prop where
 under : P.underlying t = some (.map k e)
 keyed : Maps.Keyed P k
 key : ∀ x,okk x → keyOf P k (κ x) = some (lit x)
 linj : ∀ x y,lit x = lit y → x = y
 val : ∀ y,okv y → plainElem P e (ν y) = some (dat y,[])
 inv : ∀ v y ps,plainElem P e v = some (dat y,ps) → v = ν y
 zok : okv zero
 zeros : ∀ w,(zeroValue e).run P w = .ok (ν zero) w
section
variable {α β : Type} {P : Program} {t k e : TypeId} {κ : α → Value} {okk : α → Prop} {lit : α → Lit} {ν : β → Value} {okv : β → Prop} {dat : β → DataW Unit} {zero : β}
def MapIs (T : MapTy P t k e κ okk lit ν okv dat zero) (w : World) (b n : Nat) (f : α → Option β) : Prop :=
 ∃ D : DataW Unit,Maps.IsMap D ∧ w.ownsMap P k (plainElem P e) b n D ∧ ∀ x,okk x → Maps.has D (lit x) = (f x).isSome ∧ D.atKey (lit x) (dat zero) = dat ((f x).getD zero)
variable {T : MapTy P t k e κ okk lit ν okv dat zero} {w w' : World} {b n : Nat} {f : α → Option β}
theorem MapIs.made (T : MapTy P t k e κ okk lit ν okv dat zero) (w : World) : MapIs T (w.alloc (.map #[] 0)) w.heap.size 0 (fun _ => none) :=
 ⟨.map [],Maps.isMap_empty,World.ownsMap_made w P k _,fun x _ => ⟨rfl,rfl⟩⟩
theorem MapIs.lt (h : MapIs T w b n f) : b < w.heap.size := let ⟨_,_,h1,_⟩ := h; h1.lt
theorem MapIs.kept {row : Option Nat} (h : MapIs T w b n f) (hg : w.grownBy w' row) (hne : some b ≠ row) : MapIs T w' b n f := by
 obtain ⟨D,h1,h2,h3⟩ := h
 exact ⟨D,h1,h2.kept hg hne,h3⟩
theorem MapIs.mono (h : MapIs T w b n f) (hb : Below w.heap.size w w') : MapIs T w' b n f :=
 h.kept (row := none) ⟨hb.os,hb.tape,hb.output,hb.size,fun k hk _ => hb.block k hk⟩ (by simp)
theorem MapIs.below {B : Nat} (h : MapIs T w b n f) (hlt : b < B) (hb : Below B w w') : MapIs T w' b n f := by
 obtain ⟨D,h1,⟨es,clock,hh,F,hs,hD⟩,h3⟩ := h
 exact ⟨D,h1,⟨es,clock,(hb.block b hlt).trans hh,F,hs,hD⟩,h3⟩
theorem MapIs.alloc (h : MapIs T w b n f) (o : Obj) : MapIs T (w.alloc o) b n f := h.mono (bw_alloc (Below.refl _ _))
theorem MapIs.later (h : MapIs T w b n f) (x : Later w) : MapIs T x.W b n f := h.mono x.h
theorem MapIs.look (h : MapIs T w b n f) {x : α} (hx : okk x) : (Instr.lookup t (.map (some b)) (κ x) false).run P w = .ok (ν ((f x).getD zero)) w := by
 obtain ⟨D,h1,h2,h3⟩ := h
 obtain ⟨v,ps,hrun,hv⟩ := h2.lookup T.keyed T.under (T.zeros w) (T.val zero T.zok) (T.key x hx)
 rw [(h3 x hx).2] at hv
 rw [hrun,T.inv v _ ps hv]
theorem MapIs.look_ok (h : MapIs T w b n f) {x : α} (hx : okk x) : (Instr.lookup t (.map (some b)) (κ x) true).run P w = .ok (.tuple #[ν ((f x).getD zero),.bool (f x).isSome]) w := by
 obtain ⟨D,h1,h2,h3⟩ := h
 obtain ⟨v,ps,hrun,hv⟩ := h2.look_ok T.keyed T.under (T.zeros w) (T.val zero T.zok) (T.key x hx)
 rw [(h3 x hx).2] at hv
 rw [hrun,T.inv v _ ps hv,(h3 x hx).1]
def putF [DecidableEq α] (f : α → Option β) (x : α) (y : β) : α → Option β := fun z => if z = x then some y else f z
theorem MapIs.set [DecidableEq α] (h : MapIs T w b n f) {x : α} {y : β} (hx : okk x) (hy : okv y) (hn : n < maxLen) :
  ∃ w',(Instr.mapUpdate t (.map (some b)) (κ x) (ν y)).run P w = .ok () w' ∧ MapIs T w' b (n + 1) (putF f x y) ∧ w.grownBy w' (some b) := by
 obtain ⟨D,h1,h2,h3⟩ := h
 obtain ⟨w',hrun,r1,r2⟩ := h2.update T.keyed T.under hn (T.key x hx) (T.val y hy)
 refine ⟨w',hrun,⟨_,h1.put _ _,r1,fun z hz => ?_⟩,r2⟩
 have hk := T.keyed.key (T.key x hx)
 unfold putF
 by_cases e1 : z = x
 ·subst e1
  rw [if_pos rfl,Maps.has_put_same h1 hk,Maps.atKey_put_same h1 hk]
  exact ⟨rfl,rfl⟩
 ·have hne : lit z ≠ lit x := fun h => e1 (T.linj _ _ h)
  rw [if_neg e1,Maps.has_put_other hne,Maps.atKey_put_other hne]
  exact h3 z hz
end
theorem wpList_mapSet {α β : Type} [DecidableEq α] {P : Program} {t k e : TypeId} {κ : α → Value} {okk : α → Prop} {lit : α → Lit} {ν : β → Value} {okv : β → Prop} {dat : β → DataW Unit} {zero : β} (T : MapTy P t k e κ okk lit ν okv dat zero)
  {w : World} {ops : Array Oper} {rest : List Oper} {o : Oper} {a : Act} {Q : Exit → Act → World → Prop} (hg : o.guard = none) (m x v : Operand) (hop : o.op = Op.mapUpdate t m x v)
  (b n : Nat) (f : α → Option β) (hm : a.eval m = .map (some b)) (hown : MapIs T w b n f) (hn : n < maxLen) (kx : α) (y : β) (hx : a.eval x = κ kx) (hv : a.eval v = ν y) (hkx : okk kx) (hy : okv y)
  (hK : ∀ w',MapIs T w' b (n + 1) (putF f kx y) → w.grownBy w' (some b) → wpList P ops Q rest (a.put o.dst undef) w') :
  wpList P ops Q (o :: rest) a w := by
 refine wpList_plain hg fun K' hK' => ?_
 obtain ⟨w',hrun,r1,r2⟩ := hown.set hkx hy hn
 unfold Oper.wp
 simp [execOp,hop,hm,hx,hv,hrun,Result.andThen]
 exact hK' _ _ (hK w' r1 r2)
def okInt (x : Int) : Prop := (Lit.int .i64 x).wf = true
theorem okInt_of {x : Int} (h1 : -9223372036854775808 ≤ x) (h2 : x ≤ 9223372036854775807) : okInt x := by
 simp [okInt,Lit.wf,IntKind.min,IntKind.max,IntKind.signed,IntKind.bits]; omega
theorem MapTy.int_bool {P : Program} {t k e : TypeId} (ht : P.underlying t = some (.map k e)) (hk : P.underlying k = some (.int .i64)) (he : P.underlying e = some .bool) (hz : ∀ w,(zeroValue e).run P w = .ok (.bool false) w) :
  MapTy P t k e (fun x : Int => .int .i64 x) okInt (fun x => .int .i64 x) (fun y : Bool => .bool y) (fun _ => True) (fun y => .lit (.bool y)) false :=
 {under := ht,keyed := Maps.int_keyed hk,key := fun x hx => Maps.keyOf_int_mk hk hx,linj := fun x y h => by injection h,val := fun y _ => plainElem_bool he y,
  inv := fun v y ps h => by
   unfold plainElem at h
   rw [he] at h
   cases v <;> simp at h
   obtain ⟨rfl,_⟩ := h
   rfl
  zok := trivial,zeros := hz }
theorem MapIs.made0 {α β : Type} {P : Program} {t k e : TypeId} {κ : α → Value} {okk : α → Prop} {lit : α → Lit} {ν : β → Value} {okv : β → Prop} {dat : β → DataW Unit} {zero : β} (T : MapTy P t k e κ okk lit ν okv dat zero) (w : World) {b : Nat} (h : w.heap.size = b) {f : α → Option β} (hf : ∀ x,f x = none) :
  MapIs T (w.alloc (.map #[] 0)) b 0 f := by
 subst h
 have : f = fun _ => none := funext hf
 rw [this]
 exact MapIs.made T w
def okStr (s : ByteArray) : Prop := s.size ≤ maxLen
theorem MapTy.str_int {P : Program} {t k e : TypeId} (ht : P.underlying t = some (.map k e)) (hk : P.underlying k = some .string) (he : P.underlying e = some (.int .i64)) (hz : ∀ w,(zeroValue e).run P w = .ok (.int .i64 0) w) :
  MapTy P t k e (fun x : ByteArray => .string x) okStr (fun x => .string x.data.toList) (fun y : Int => .int .i64 y) okInt (fun y => .lit (.int .i64 y)) 0 :=
 {under := ht,keyed := Maps.string_keyed hk,key := fun x hx => WideMaps.keyOf_string_mk hk hx,linj := fun x y h => by
   injection h with h
   exact ByteArray.ext (Array.toList_inj.1 h)
  val := fun y hy => plainElem_int he hy,
  inv := fun v y ps h => by
   obtain ⟨a,rfl,h2,_⟩ := plainElem_int_inv he h
   simp at h2
   obtain ⟨rfl,_⟩ := h2
   rfl
  zok := okInt_of (by omega) (by omega),zeros := hz }
theorem wpList_of_quiet {P : Program} {ops : Array Oper} {C : World → Prop} {Q : Act → Prop} {Q' : Exit → Act → World → Prop} (hQ : ∀ a w,C w → Q a → Q' .normal a w) :
  ∀ (l : List Oper) (a : Act) (w : World),C w → wpQuiet P ops C Q l a → wpList P ops Q' l a w
 | [],a,w,hw,h => hQ a w hw h
 | o :: rest,a,w,hw,h => by
  unfold wpQuiet at h
  unfold wpList
  split
  ·rename_i hh
   rw [if_pos hh] at h
   exact Or.inl (Oper.wp_of_quiet hw (fun a w' hw' hk => wpList_of_quiet hQ rest a w' hw' hk) h)
  ·rename_i hh
   rw [if_neg hh] at h
   exact wpList_of_quiet hQ rest _ w hw h
theorem wp_region_laterN {P : Program} {id : Nat} {Q : Exit → Act → World → Prop} {a : Act} {w : World} {l : List Oper}
  (h : wpQuiet P l.toArray (fun w' => ∃ x : Later w,w' = x.W) (fun a' => ∀ w',(∃ x : Later w,w' = x.W) → Q .normal a' w') l a) : (Code.region id l.toArray false).wp P Q a w :=
 wp_region_lit (wpList_of_quiet (fun _ w' hw' h => h w' hw') l a w ⟨⟨w,Below.refl _ _⟩,rfl⟩ h)
section
variable {P : Program} {ops : Array Oper} {md : Region.Mode} {Q : Exit → Act → World → Prop} {w0 w1 : World}
theorem RZ.at {n f : Nat} {listed : Array Bool} {a : Act} {w : World} (i : Nat) (hr : Region.ready .any ops listed = [i]) (hin : i < n)
  (h : ∀ K : Act → World → Prop,(∀ a' w',Below w0.heap.size w0 w' → RZ P w0 ops Q n f (listed.setIfInBounds i true) a' w' → K a' w') → wpList P ops (Exit.then K QF) (pickOps ops [i]) a w) : RZ P w0 ops Q n (f + 1) listed a w := by
 obtain ⟨_,o,ho,_⟩ := mem_ready.1 (show i ∈ Region.ready .any ops listed by rw [hr]; simp)
 refine RZ.single i ho hr hin ?_
 have hp : pickOps ops [i] = [o] := by unfold pickOps; rw [List.filterMap_cons,ho]; rfl
 rw [hp] at h
 exact h
end
theorem wp_region_RZb {P : Program} {Q : Exit → Act → World → Prop} {w0 : World} {id : Nat} {a : Act} {w : World} {l : List Oper} (n : Nat) (hm : P.follows .mixedOrders = true) (hB : Region.regB l.toArray n = true) (hb : Below w0.heap.size w0 w.drew)
  (h : RZ P w0 l.toArray Q n n (Array.replicate l.length false) a w.drew) : (Code.region id l.toArray true).wp P Q a w := by
 simp only [Region.regB,Bool.and_eq_true] at hB
 have hT := TailOk.of hB.2
 have hn : n ≤ l.length := by
  have := hB.2
  simp only [Bool.or_eq_true,Bool.and_eq_true,decide_eq_true_eq] at this
  rcases this with h | ⟨⟨h,_⟩,_⟩
  ·simp at h; omega
  ·simp at h; omega
 have inv0 : HeadInv .any l.toArray n (Array.replicate l.length false) :=
  ⟨by simp,fun j oj _ hl => (by rw [getD_replicate_false] at hl; cases hl),fun t _ ht => getD_in (by simpa using ht) (getD_replicate_false _ _)⟩
 refine wp_region_any hm ?_
 have := wpAny_of_Z (Q := Q) (g := l.toArray.size - n) (fun listed a' w' hL => hL.2) _ _ _ _ (h hb hT hB.1 inv0)
 rw [show n + (l.toArray.size - n) = l.toArray.size by simp; omega] at this
 simpa using this
structure Held (S : World → Prop) where
 W : World
 h : S W
section
variable {P : Program} {ops : Array Oper} {S : World → Prop} {Q : Exit → Act → World → Prop}
def RestsC (P : Program) (ops : Array Oper) (S : World → Prop) (o : Oper) (v : Value) (a : Act) : Prop :=
 (Region.wanted o (yielded ops a.tmps) = true ∧ ∀ w',S w' → (execOp a.eval o).run P w' = .ok (.value v) w') ∨
 (Region.wanted o (yielded ops a.tmps) = false ∧ v = undef)
theorem RestsC.wpOp {i : Nat} {w : World} {o : Oper} {v : Value} {a : Act} (h : RestsC P ops S o v a) (hi : ops[i]? = some o) (hw0 : S w) {K : Act → World → Prop} (hK : K (a.put o.dst v) w) : wpOp P ops Q i K a w := by
 unfold Go.wpOp
 simp only [hi]
 rcases h with ⟨hw,h2⟩ | ⟨hw,rfl⟩
 ·simp only [hw,if_true]
  left
  unfold Oper.wp
  rw [h2 w hw0]
  exact hK
 ·simp only [hw,Bool.false_eq_true,if_false]; exact hK
theorem RestsC.same {o : Oper} {v : Value} {a a' : Act} (hy : RestsC P ops S o v a) (he : execOp a'.eval o = execOp a.eval o)
  (hw : Region.wanted o (yielded ops a'.tmps) = Region.wanted o (yielded ops a.tmps)) : RestsC P ops S o v a' := by
 unfold RestsC at *
 rw [he,hw]
 exact hy
end
section
variable {P : Program} {ops : Array Oper} {md : Region.Mode} {Q : Exit → Act → World → Prop} {S : World → Prop}
theorem wpOp_putC {j : Nat} {w : World} {oi oj : Oper} {v : Value} (hj : ops[j]? = some oj) (hap : oi.apart ops oj = true) (hsi : ∀ cs b,oi.op ≠ .select cs b) (hsj : ∀ cs b,oj.op ≠ .select cs b) {K : Act → World → Prop} {a : Act}
  (hy : RestsC P ops S oi v a) (h : wpOp P ops QF j K (a.put oi.dst v) w) : wpOp P ops QF j (fun a' w' => RestsC P ops S oi v a' ∧ K (a'.put oi.dst v) w') a w := by
 obtain ⟨h1,h2,h3⟩ := Oper.apart_spec hap
 have keep : ∀ u,RestsC P ops S oi v (a.put oj.dst u) := fun u =>
  hy.same (execOp_put oi hsi a oj.dst u h3) (wanted_put oi a oj.dst u h3)
 have keepD : ∀ (ds : List Deferred) u,RestsC P ops S oi v (({ a with defers := ds } : Act).put oj.dst u) := fun ds u => by
  have hy' : RestsC P ops S oi v { a with defers := ds } := hy.same (by rw [eval_defers]) rfl
  exact hy'.same (execOp_put oi hsi _ oj.dst u h3) (wanted_put oi _ oj.dst u h3)
 have comm : ∀ (b : Act) u,(b.put oj.dst u).put oi.dst v = (b.put oi.dst v).put oj.dst u := fun b u => (Act.put_comm b v u h2).symm
 unfold wpOp at *
 simp only [hj] at *
 rw [wanted_put oj a oi.dst v h1] at h
 split
 ·rename_i hw
  simp only [hw,if_true] at h
  rcases h with h | h
  ·left
   unfold Oper.wp at *
   rw [execOp_put oj hsj a oi.dst v h1] at h
   generalize (execOp a.eval oj).run P w = r at *
   cases r with
   | ok n w' =>
    cases n <;> simp only [Oper.upon] at h ⊢
    case value u => exact ⟨keep u,by rw [comm]; exact h⟩
    case skip => exact ⟨keep _,by rw [comm]; exact h⟩
    case defer d =>
     refine ⟨keepD _ _,?_⟩
     rw [comm]
     rw [Act.put_defers] at h
     exact h
    case enter f args =>
     exact h.mono fun e w'' he => by
      cases e with
      | returned u => exact ⟨keep u,by rw [comm]; exact he⟩
      | panicked c => exact he
      | outgrown => exact he
    case row r args => exact Rows.mono h fun u w'' he => ⟨keep u,by rw [comm]; exact he⟩
   | halt x w' => cases x <;> simp only [Oper.upon] at h ⊢ <;> exact h
  ·exact absurd h.2 letsOut_QF
 ·rename_i hw
  simp only [hw] at h
  exact ⟨keep _,by rw [comm]; exact h⟩
def wpC (P : Program) (S : World → Prop) (md : Region.Mode) (ops : Array Oper) (n : Nat) (L : Array Bool → Act → World → Prop) : Nat → Array Bool → Act → World → Prop
 | 0,listed,a,w => L listed a w
 | f + 1,listed,a,w =>
  Region.ready md ops listed ≠ [] ∧
  ∀ i ∈ Region.ready md ops listed,i < n ∧ wpOp P ops QF i (fun a' w' => S w' ∧ wpC P S md ops n L f (listed.setIfInBounds i true) a' w') a w
theorem wpAny_of_C {n g : Nat} {L : Array Bool → Act → World → Prop} (hL : ∀ listed a w,L listed a w → wpAny P md ops Q g listed a w) :
  ∀ (f : Nat) (listed : Array Bool) (a : Act) (w : World),wpC P S md ops n L f listed a w → wpAny P md ops Q (f + g) listed a w
 | 0,listed,a,w,h => by rw [Nat.zero_add]; exact hL _ _ _ h
 | f + 1,listed,a,w,h => by
  rw [show f + 1 + g = (f + g) + 1 by omega]
  exact ⟨fun h0 => absurd h0 h.1,fun i hi => wpOp_QF (wpOp_mono (fun a' w' h' => wpAny_of_C hL f _ a' w' h'.2) (h.2 i hi).2)⟩
theorem wpC_first {n i : Nat} {oi : Oper} {v : Value} {L : Array Bool → Act → World → Prop} (hi : ops[i]? = some oi) (hsel : ∀ (j : Nat) (o : Oper) cs b,ops[j]? = some o → o.op ≠ .select cs b)
  (hT : TailOk md ops n) (hin : i < n) (hdone : ∀ listed a w,L listed a w → ∀ j ∈ Region.ready md ops listed,n ≤ j) :
  ∀ (f : Nat) (listed : Array Bool) (a : Act) (w : World),HeadInv md ops n listed → S w →
   (∀ j oj,ops[j]? = some oj → j ≠ i → listed.getD j true = false → (∀ e ∈ oj.after,Region.binds md e = true → e.on ≠ i) → oi.apart ops oj = true) →
   i ∈ Region.ready md ops listed → RestsC P ops S oi v a →
   wpC P S md ops n L f (listed.setIfInBounds i true) (a.put oi.dst v) w → wpC P S md ops n L (f + 1) listed a w := by
 intro f
 induction f with
 | zero =>
  intro listed a w inv hbw _ hr hy H
  have hun := (mem_ready.1 hr).1
  refine ⟨fun h => (by rw [h] at hr; cases hr),fun j hj => ?_⟩
  have hjn : j < n := by
   rcases Nat.lt_or_ge j n with h | h
   ·exact h
   ·exact absurd hj (hT _ inv i hin hun j h)
  refine ⟨hjn,?_⟩
  by_cases hji : j = i
  ·subst hji; exact hy.wpOp hi hbw ⟨hbw,H⟩
  ·have := hdone _ _ _ H j (ready_mono hj hji)
   omega
 | succ f ih =>
  intro listed a w inv hbw hfree hr hy H
  have hun := (mem_ready.1 hr).1
  refine ⟨fun h => (by rw [h] at hr; cases hr),fun j hj => ?_⟩
  have hjn : j < n := by
   rcases Nat.lt_or_ge j n with h | h
   ·exact h
   ·exact absurd hj (hT _ inv i hin hun j h)
  refine ⟨hjn,?_⟩
  by_cases hji : j = i
  ·subst hji; exact hy.wpOp hi hbw ⟨hbw,H⟩
  ·have h1 := (H.2 j (ready_mono hj hji)).2
   obtain ⟨hjun,oj,hoj,hall⟩ := mem_ready.1 hj
   have hnot : ∀ e ∈ oj.after,Region.binds md e = true → e.on ≠ i := fun e he hb heq => by
    have h1 := hall e he hb
    rw [heq,getD_both hun] at h1
    cases h1
   have h2 := wpOp_putC hoj (hfree j oj hoj hji hjun hnot) (fun cs b => hsel i oi cs b hi) (fun cs b => hsel j oj cs b hoj) hy h1
   have hfree' : ∀ k ok,ops[k]? = some ok → k ≠ i → (listed.setIfInBounds j true).getD k true = false →
     (∀ e ∈ ok.after,Region.binds md e = true → e.on ≠ i) → oi.apart ops ok = true := fun k ok hk hki hun hno => by
    refine hfree k ok hk hki ?_ hno
    by_cases hjk : j = k
    ·subst hjk; exact hjun
    ·rw [getD_set_ne true hjk] at hun; exact hun
   refine wpOp_mono (fun a' w' h3 => ⟨h3.2.1,ih (listed.setIfInBounds j true) a' w' (inv.set hj hjn) h3.2.1 hfree' (ready_mono hr (Ne.symm hji)) h3.1 ?_⟩) h2
   rw [Array.setIfInBounds_comm _ _ hji]
   exact h3.2.2
def RC (P : Program) (S : World → Prop) (ops : Array Oper) (Q : Exit → Act → World → Prop) (n f : Nat) (listed : Array Bool) (a : Act) (w : World) : Prop :=
 S w → TailOk .any ops n → Region.noSelect ops = true → HeadInv .any ops n listed →
  wpC P S .any ops n (fun listed' a' w' => (∀ j ∈ Region.ready .any ops listed',n ≤ j) ∧ wpAny P .any ops Q (ops.size - n) listed' a' w') f listed a w
theorem RC.chunk {n f : Nat} : ∀ (idx : List Nat) {listed : Array Bool} {a : Act} {w : World},Region.chunkB ops n idx listed = true →
  wpQuiet P ops (fun w' => ∃ x : Held S,w' = x.W) (fun a' => RC P S ops Q n f (setAll idx listed) a' w) (pickOps ops idx) a → RC P S ops Q n (f + idx.length) listed a w
 | [],listed,a,w,_,h => h
 | i :: r,listed,a,w,hB,h => by
  intro hbw hT hsel inv
  simp only [Region.chunkB,Bool.and_eq_true,decide_eq_true_eq] at hB
  obtain ⟨⟨⟨⟨hr,hf⟩,hin⟩,hp⟩,hB'⟩ := hB
  have hr' : i ∈ Region.ready .any ops listed := by simpa using hr
  obtain ⟨_,o,ho,_⟩ := mem_ready.1 hr'
  rw [ho] at hp
  have hp' : plainOp o.op = true := by simpa using hp
  have hpk : pickOps ops (i :: r) = o :: pickOps ops r := by unfold pickOps; rw [List.filterMap_cons,ho]
  rw [hpk] at h
  have hst : qOp P ops (fun w' => ∃ x : Held S,w' = x.W) i (wpQuiet P ops (fun w' => ∃ x : Held S,w' = x.W) (fun a' => RC P S ops Q n f (setAll (i :: r) listed) a' w) (pickOps ops r)) a := by
   unfold qOp; simp only [ho]; exact h
  obtain ⟨v,hy,hK⟩ := yieldsIn_of_qOp ho hst
  have hrest : RestsC P ops S o v a := by
   rcases hy with ⟨h1,h2⟩ | ⟨h1,h2⟩
   ·refine .inl ⟨h1,fun w' hb => ?_⟩
    have h3 := h2 w' ⟨⟨w',hb⟩,rfl⟩
    unfold Oper.quietAt at h3
    cases hrun : (execOp a.eval o).run P w' with
    | ok nx w'' =>
     obtain ⟨u,rfl⟩ := plain_value hp' hrun
     rw [hrun] at h3
     obtain ⟨e1,e2⟩ := h3
     rw [e1,e2]
    | halt x w'' => rw [hrun] at h3; exact h3.elim
   ·exact .inr ⟨h1,h2⟩
  have hrec := RC.chunk (f := f) r hB' hK hbw hT hsel (inv.set hr' hin)
  exact wpC_first ho (Region.noSelect_spec hsel) hT hin (fun _ _ _ hL => hL.1) _ listed a w inv hbw (Region.free_spec ho hf) hr' hrest hrec
theorem RC.single {n f : Nat} {listed : Array Bool} {a : Act} {w : World} (i : Nat) {o : Oper} (ho : ops[i]? = some o) (hr : Region.ready .any ops listed = [i]) (hin : i < n)
  (h : ∀ K : Act → World → Prop,(∀ a' w',S w' → RC P S ops Q n f (listed.setIfInBounds i true) a' w' → K a' w') → wpList P ops (Exit.then K QF) [o] a w) : RC P S ops Q n (f + 1) listed a w := by
 intro hbw hT hsel inv
 refine ⟨fun h0 => (by rw [hr] at h0; cases h0),fun j hj => ?_⟩
 rw [hr] at hj
 have hji : j = i := by simpa using hj
 subst hji
 refine ⟨hin,?_⟩
 have h1 := h (fun a' w' => S w' ∧ wpC P S .any ops n (fun listed' a' w' => (∀ j ∈ Region.ready .any ops listed',n ≤ j) ∧ wpAny P .any ops Q (ops.size - n) listed' a' w') f (listed.setIfInBounds j true) a' w') (fun a' w' hb h' => ⟨hb,h' hb hT hsel (inv.set (by rw [hr]; simp) hin)⟩)
 unfold wpOp
 simp only [ho]
 simp only [wpList] at h1
 split
 ·rename_i hw
  simp only [hw,if_true] at h1
  rcases h1 with h1 | h1
  ·left
   unfold Oper.wp at *
   generalize (execOp a.eval o).run P w = r at *
   cases r with
   | ok nx w' =>
    cases nx <;> simp only [Oper.upon,Exit.then] at h1 ⊢ <;> exact h1
   | halt x w' => cases x <;> simp only [Oper.upon,Exit.then] at h1 ⊢ <;> exact h1
  ·obtain ⟨_,_,_,h⟩ := h1; exact h.elim
 ·rename_i hw
  simp only [hw] at h1
  exact h1
theorem RC.both {n f : Nat} {listed : Array Bool} {a : Act} {w : World} (i j : Nat) {oi oj : Oper} (hi : ops[i]? = some oi) (hj : ops[j]? = some oj) (hr : Region.ready .any ops listed = [i,j]) (hin : i < n) (hjn : j < n)
  (h1 : ∀ K : Act → World → Prop,(∀ a' w',S w' → RC P S ops Q n f (listed.setIfInBounds i true) a' w' → K a' w') → wpList P ops (Exit.then K QF) [oi] a w)
  (h2 : ∀ K : Act → World → Prop,(∀ a' w',S w' → RC P S ops Q n f (listed.setIfInBounds j true) a' w' → K a' w') → wpList P ops (Exit.then K QF) [oj] a w) : RC P S ops Q n (f + 1) listed a w := by
 intro hbw hT hsel inv
 have key : ∀ (k : Nat) (o : Oper),ops[k]? = some o → k ∈ Region.ready .any ops listed → k < n →
   (∀ K : Act → World → Prop,(∀ a' w',S w' → RC P S ops Q n f (listed.setIfInBounds k true) a' w' → K a' w') → wpList P ops (Exit.then K QF) [o] a w) →
   wpOp P ops QF k (fun a' w' => S w' ∧ wpC P S .any ops n (fun listed' a' w' => (∀ j ∈ Region.ready .any ops listed',n ≤ j) ∧ wpAny P .any ops Q (ops.size - n) listed' a' w') f (listed.setIfInBounds k true) a' w') a w := by
  intro k o ho hk hkn h
  have h1 := h (fun a' w' => S w' ∧ wpC P S .any ops n (fun listed' a' w' => (∀ j ∈ Region.ready .any ops listed',n ≤ j) ∧ wpAny P .any ops Q (ops.size - n) listed' a' w') f (listed.setIfInBounds k true) a' w') (fun a' w' hb h' => ⟨hb,h' hb hT hsel (inv.set hk hkn)⟩)
  unfold wpOp
  simp only [ho]
  simp only [wpList] at h1
  split
  ·rename_i hw
   simp only [hw,if_true] at h1
   rcases h1 with h1 | h1
   ·left
    unfold Oper.wp at *
    generalize (execOp a.eval o).run P w = r at *
    cases r with
    | ok nx w' =>
     cases nx <;> simp only [Oper.upon,Exit.then] at h1 ⊢ <;> exact h1
    | halt x w' => cases x <;> simp only [Oper.upon,Exit.then] at h1 ⊢ <;> exact h1
   ·obtain ⟨_,_,_,h⟩ := h1; exact h.elim
  ·rename_i hw
   simp only [hw] at h1
   exact h1
 refine ⟨fun h0 => (by rw [hr] at h0; cases h0),fun k hk => ?_⟩
 have hk' := hk
 rw [hr] at hk'
 simp only [List.mem_cons,List.not_mem_nil,or_false] at hk'
 rcases hk' with rfl | rfl
 ·exact ⟨hin,key _ _ hi hk hin h1⟩
 ·exact ⟨hjn,key _ _ hj hk hjn h2⟩
theorem RC.tail {l : List Oper} {n : Nat} {listed : Array Bool} {a : Act} {w : World} (hB : Region.seqB .any l.toArray (l.length - n) n listed = true) (h : wpList P l.toArray Q (l.drop n) a w) : RC P S l.toArray Q n 0 listed a w := by
 intro hbw hT hsel inv
 refine ⟨seqB_ready hB,?_⟩
 have hdl : (l.drop n).length = l.toArray.size - n := by simp
 have := wpAny_of_seq (md := .any) (Q' := Q) (l.drop n) n listed a w (fun j => by simp [List.getElem?_drop]) (by rw [hdl]; simpa using hB) h
 rwa [hdl] at this
theorem RC.done {n : Nat} {listed : Array Bool} {a : Act} {w : World} (hn : ops.size - n = 0) (hB : Region.ready .any ops listed = []) (h : Q .normal a w) : RC P S ops Q n 0 listed a w := by
 intro hbw hT hsel inv
 refine ⟨fun j hj => (by rw [hB] at hj; cases hj),?_⟩
 rw [hn]
 exact ⟨hB,h⟩
theorem wp_region_RC {id : Nat} {a : Act} {w : World} {l : List Oper} (n : Nat) (hm : P.follows .mixedOrders = true) (h0 : S w.drew) (hB : Region.regB l.toArray n = true)
  (h : RC P S l.toArray Q n n (Array.replicate l.length false) a w.drew) : (Code.region id l.toArray true).wp P Q a w := by
 simp only [Region.regB,Bool.and_eq_true] at hB
 have hT := TailOk.of hB.2
 have hn : n ≤ l.length := by
  have := hB.2
  simp only [Bool.or_eq_true,Bool.and_eq_true,decide_eq_true_eq] at this
  rcases this with h | ⟨⟨h,_⟩,_⟩
  ·simp at h; omega
  ·simp at h; omega
 have inv0 : HeadInv .any l.toArray n (Array.replicate l.length false) :=
  ⟨by simp,fun j oj _ hl => (by rw [getD_replicate_false] at hl; cases hl),fun t _ ht => getD_in (by simpa using ht) (getD_replicate_false _ _)⟩
 refine wp_region_any hm ?_
 have := wpAny_of_C (Q := Q) (g := l.toArray.size - n) (fun listed a' w' hL => hL.2) _ _ _ _ (h h0 hT hB.1 inv0)
 rw [show n + (l.toArray.size - n) = l.toArray.size by simp; omega] at this
 simpa using this
end
def plainN : Op → Bool
 | .nilCheck _ => true
 | o => plainOp o
theorem plainN_value {o : Oper} (ho : plainN o.op = true) {ρ : Operand → Value} {P : Program} {w w' : World} {n : Next} (h : (execOp ρ o).run P w = .ok n w') : ∃ u,n = .value u := by
 cases hop : o.op
 case nilCheck x =>
  unfold execOp at h
  rw [hop] at h
  simp only at h
  repeat' split at h
  all_goals first | (simp at h; exact ⟨_,h.1.symm⟩) | (exfalso; revert h; simp [runtimePanic]; done) | skip
  simp only [Sem.run_bind] at h
  generalize Sem.run P program w = r1 at h
  cases r1 with
  | halt x w1 => simp [Result.andThen] at h
  | ok a w1 =>
   simp only [Result.andThen] at h
   generalize Sem.run P (nilAhead _ _ _ _) w1 = r2 at h
   cases r2 with
   | halt x w2 => simp at h
   | ok b w2 =>
    simp only at h
    split at h
    ·simp [unsupported] at h
    ·simp at h
     exact ⟨_,h.1.symm⟩
 all_goals exact plain_value (by rw [hop] at ho ⊢; exact ho) h
def Region.chunkN (ops : Array Oper) (n : Nat) : List Nat → Array Bool → Bool
 | [],_ => true
 | i :: r,listed => (Region.ready .any ops listed).contains i && Region.free .any ops listed i && decide (i < n) && ((ops[i]?).map fun o => plainN o.op).getD false && Region.chunkN ops n r (listed.setIfInBounds i true)
section
variable {P : Program} {ops : Array Oper} {Q : Exit → Act → World → Prop} {w0 : World}
theorem RZ.chunkN {n f : Nat} : ∀ (idx : List Nat) {listed : Array Bool} {a : Act} {w : World},Region.chunkN ops n idx listed = true →
  wpQuiet P ops (fun w' => ∃ x : Later w0,w' = x.W) (fun a' => RZ P w0 ops Q n f (setAll idx listed) a' w) (pickOps ops idx) a → RZ P w0 ops Q n (f + idx.length) listed a w
 | [],listed,a,w,_,h => h
 | i :: r,listed,a,w,hB,h => by
  intro hbw hT hsel inv
  simp only [Region.chunkN,Bool.and_eq_true,decide_eq_true_eq] at hB
  obtain ⟨⟨⟨⟨hr,hf⟩,hin⟩,hp⟩,hB'⟩ := hB
  have hr' : i ∈ Region.ready .any ops listed := by simpa using hr
  obtain ⟨_,o,ho,_⟩ := mem_ready.1 hr'
  rw [ho] at hp
  have hp' : plainN o.op = true := by simpa using hp
  have hpk : pickOps ops (i :: r) = o :: pickOps ops r := by unfold pickOps; rw [List.filterMap_cons,ho]
  rw [hpk] at h
  have hst : qOp P ops (fun w' => ∃ x : Later w0,w' = x.W) i (wpQuiet P ops (fun w' => ∃ x : Later w0,w' = x.W) (fun a' => RZ P w0 ops Q n f (setAll (i :: r) listed) a' w) (pickOps ops r)) a := by
   unfold qOp; simp only [ho]; exact h
  obtain ⟨v,hy,hK⟩ := yieldsIn_of_qOp ho hst
  have hrest : Rests P ops w0 o v a := by
   rcases hy with ⟨h1,h2⟩ | ⟨h1,h2⟩
   ·refine .inl ⟨h1,fun w' hb => ?_⟩
    have h3 := h2 w' ⟨⟨w',hb⟩,rfl⟩
    unfold Oper.quietAt at h3
    cases hrun : (execOp a.eval o).run P w' with
    | ok nx w'' =>
     obtain ⟨u,rfl⟩ := plainN_value hp' hrun
     rw [hrun] at h3
     obtain ⟨e1,e2⟩ := h3
     rw [e1,e2]
    | halt x w'' => rw [hrun] at h3; exact h3.elim
   ·exact .inr ⟨h1,h2⟩
  have hrec := RZ.chunkN (f := f) r hB' hK hbw hT hsel (inv.set hr' hin)
  exact wpZ_first ho (Region.noSelect_spec hsel) hT hin (fun _ _ _ hL => hL.1) _ listed a w inv hbw (Region.free_spec ho hf) hr' hrest hrec
end
section
variable {P : Program} {ops : Array Oper} {Q : Exit → Act → World → Prop} {S : World → Prop}
theorem RC.chunkN {n f : Nat} : ∀ (idx : List Nat) {listed : Array Bool} {a : Act} {w : World},Region.chunkN ops n idx listed = true →
  wpQuiet P ops (fun w' => ∃ x : Held S,w' = x.W) (fun a' => RC P S ops Q n f (setAll idx listed) a' w) (pickOps ops idx) a → RC P S ops Q n (f + idx.length) listed a w
 | [],listed,a,w,_,h => h
 | i :: r,listed,a,w,hB,h => by
  intro hbw hT hsel inv
  simp only [Region.chunkN,Bool.and_eq_true,decide_eq_true_eq] at hB
  obtain ⟨⟨⟨⟨hr,hf⟩,hin⟩,hp⟩,hB'⟩ := hB
  have hr' : i ∈ Region.ready .any ops listed := by simpa using hr
  obtain ⟨_,o,ho,_⟩ := mem_ready.1 hr'
  rw [ho] at hp
  have hp' : plainN o.op = true := by simpa using hp
  have hpk : pickOps ops (i :: r) = o :: pickOps ops r := by unfold pickOps; rw [List.filterMap_cons,ho]
  rw [hpk] at h
  have hst : qOp P ops (fun w' => ∃ x : Held S,w' = x.W) i (wpQuiet P ops (fun w' => ∃ x : Held S,w' = x.W) (fun a' => RC P S ops Q n f (setAll (i :: r) listed) a' w) (pickOps ops r)) a := by
   unfold qOp; simp only [ho]; exact h
  obtain ⟨v,hy,hK⟩ := yieldsIn_of_qOp ho hst
  have hrest : RestsC P ops S o v a := by
   rcases hy with ⟨h1,h2⟩ | ⟨h1,h2⟩
   ·refine .inl ⟨h1,fun w' hb => ?_⟩
    have h3 := h2 w' ⟨⟨w',hb⟩,rfl⟩
    unfold Oper.quietAt at h3
    cases hrun : (execOp a.eval o).run P w' with
    | ok nx w'' =>
     obtain ⟨u,rfl⟩ := plainN_value hp' hrun
     rw [hrun] at h3
     obtain ⟨e1,e2⟩ := h3
     rw [e1,e2]
    | halt x w'' => rw [hrun] at h3; exact h3.elim
   ·exact .inr ⟨h1,h2⟩
  have hrec := RC.chunkN (f := f) r hB' hK hbw hT hsel (inv.set hr' hin)
  exact wpC_first ho (Region.noSelect_spec hsel) hT hin (fun _ _ _ hL => hL.1) _ listed a w inv hbw (Region.free_spec ho hf) hr' hrest hrec
end
end Go.Proofs.YtmhdambkchlilaaGreatDoor
