/-
  A library of plain words for walks: later worlds, regions whose order is open, slices that read as lists. It holds no statement about the program.
-/
import Derived.WalkKit
import Derived.WalkSpells
import Derived.WalkLawsBesides
import Derived.Deep.QuietTactic
import Derived.BigQuiet
import Derived.StillTail
import Derived.Lib.Hide
import Derived.Deep.AppendLies
import Derived.Maps.AppendAt
import Derived.Deep.DeepMust
namespace Go.Proofs.YtlcdnkloijehjaaGreatDoor
open Go.RowKit

/-! ### Later worlds -/

/-- A world in which all that was there in w is as it was. -/
structure Later (w : World) where
  W : World
  h : Below w.heap.size w W

theorem below_step {w w1 w2 : World} (h : Below w.heap.size w w1) (k : Below w1.heap.size w1 w2) : Below w.heap.size w w2 := h.trans (k.mono h.size)
theorem below_drewN {B : Nat} {a w : World} (h : Below B a w) (n : Nat) : Below B a (w.drewN n) := ⟨h.os, h.tape, h.output, h.size, h.block⟩

theorem bw_alloc {w W : World} {o : Obj} (h : Below w.heap.size w W) : Below w.heap.size w (W.alloc o) := h.alloc h.size o
theorem bw_drew {w W : World} (h : Below w.heap.size w W) : Below w.heap.size w W.drew := h.drew
theorem bw_drewN {w W : World} {n : Nat} (h : Below w.heap.size w W) : Below w.heap.size w (W.drewN n) := below_drewN h n
theorem bw_later {w W : World} {x : Later W} (h : Below w.heap.size w W) : Below w.heap.size w x.W := below_step h x.h
theorem bw_setCell {w W : World} {p : Addr} {u : Value} (h : Below w.heap.size w W) (hp : w.heap.size ≤ p.block) : Below w.heap.size w (W.setCell p u) := h.setCell hp u
theorem bw_step {w W W' : World} (k : Below W.heap.size W W') (h : Below w.heap.size w W) : Below w.heap.size w W' := below_step h k

def Later.here (w : World) : Later w := ⟨w, Below.refl _ _⟩
instance Later.some (w : World) : Nonempty (Later w) := ⟨Later.here w⟩
def Later.next {w : World} (x : Later w) {w' : World} (h : Below x.W.heap.size x.W w') : Later w := ⟨w', below_step x.h h⟩

section
variable {w : World} (x : Later w)
@[go_sem] theorem Later.cell {b o : Nat} {s : Option Nat} (h : b < w.heap.size) : x.W.cell? ⟨b, o, s⟩ = w.cell? ⟨b, o, s⟩ := x.h.cell (p := ⟨b, o, s⟩) h
@[go_sem] theorem Later.frozen {b o : Nat} {s : Option Nat} (h : b < w.heap.size) : x.W.frozen? ⟨b, o, s⟩ = w.frozen? ⟨b, o, s⟩ := x.h.frozen (p := ⟨b, o, s⟩) h
end

/-- A callee's contract, met inside a quiet region. -/
theorem Calls.later {P : Program} {f : FuncId} {args : Array Value} {w : World} {x : Later w} {v : Value}
    (h : Calls P f args x.W fun e w' => e = .returned v ∧ Below x.W.heap.size x.W w') : Calls P f args x.W fun e w'' => e = .returned v ∧ ∃ y : Later w, w'' = y.W :=
  h.mono fun _ _ ⟨he, hb⟩ => ⟨he, x.next hb, rfl⟩
theorem Calls.later_same {P : Program} {f : FuncId} {args : Array Value} {w : World} {x : Later w} {v : Value}
    (h : Calls P f args x.W fun e w' => e = .returned v ∧ x.W = w') : Calls P f args x.W fun e w'' => e = .returned v ∧ ∃ y : Later w, w'' = y.W :=
  h.mono fun _ _ ⟨he, hb⟩ => ⟨he, x, hb.symm⟩

/-- A region that draws its order, all of whose operations read or call functions that make memory and hand back one value, whatever the world. -/
theorem wp_region_later {P : Program} {id : Nat} {Q : Exit → Act → World → Prop} {a : Act} {w : World} {l : List Oper} (hm : P.follows .mixedOrders = true) (hB : Region.lexB .any l.toArray = true)
    (h : wpQuiet P l.toArray (fun w' => ∃ x : Later w, w' = x.W) (fun a' => ∀ w', (∃ x : Later w, w' = x.W) → Q .normal a' w') l a) : (Code.region id l.toArray true).wp P Q a w :=
  wp_region_quiet (C := fun w' => ∃ x : Later w, w' = x.W) hm hB ⟨⟨w.drew, (Below.refl _ _).drew⟩, rfl⟩ (by simpa using h)

/-! ### A head of quiet operations, then a tail in which each waits for the one before -/
section
variable {P : Program} {ops : Array Oper} {md : Region.Mode} {C : World → Prop}

def wpAnyT (P : Program) (md : Region.Mode) (ops : Array Oper) (C : World → Prop) (n : Nat) (L : Array Bool → Act → Prop) : Nat → Array Bool → Act → Prop
  | 0, listed, a => L listed a
  | f + 1, listed, a =>
    Region.ready md ops listed ≠ [] ∧ ∀ i ∈ Region.ready md ops listed, i < n ∧ qOp P ops C i (wpAnyT P md ops C n L f (listed.setIfInBounds i true)) a

theorem wpAny_of_headT {n g : Nat} {L : Array Bool → Act → Prop} {Q' : Exit → Act → World → Prop} (hL : ∀ listed a w, C w → L listed a → wpAny P md ops Q' g listed a w) :
    ∀ (f : Nat) (listed : Array Bool) (a : Act) (w : World), C w → wpAnyT P md ops C n L f listed a → wpAny P md ops Q' (f + g) listed a w
  | 0, listed, a, w, hw, h => by rw [Nat.zero_add]; exact hL _ _ _ hw h
  | f + 1, listed, a, w, hw, h => by
    rw [show f + 1 + g = (f + g) + 1 by omega]
    exact ⟨fun h0 => absurd h0 h.1, fun i hi => wpOp_of_qOp hw (fun a' w' hw' h' => wpAny_of_headT hL f _ a' w' hw' h') (h.2 i hi).2⟩

theorem wpAnyT_first {n i : Nat} {oi : Oper} {v : Value} {L : Array Bool → Act → Prop} (hi : ops[i]? = some oi) (hsel : ∀ (j : Nat) (o : Oper) cs b, ops[j]? = some o → o.op ≠ .select cs b)
    (hs : Region.sinkB md ops n = true) (hc : Region.chainB md ops n = true) (hn : n < ops.size) (hin : i < n)
    (hdone : ∀ listed a, L listed a → ∀ j ∈ Region.ready md ops listed, n ≤ j) :
    ∀ (f : Nat) (listed : Array Bool) (a : Act), HeadInv md ops n listed →
      (∀ j oj, ops[j]? = some oj → j ≠ i → listed.getD j true = false → (∀ e ∈ oj.after, Region.binds md e = true → e.on ≠ i) → oi.apart ops oj = true) →
      i ∈ Region.ready md ops listed → YieldsIn P ops C oi v a →
      wpAnyT P md ops C n L f (listed.setIfInBounds i true) (a.put oi.dst v) → wpAnyT P md ops C n L (f + 1) listed a := by
  intro f
  induction f with
  | zero =>
    intro listed a inv _ hr hy H
    have hun := (mem_ready.1 hr).1
    refine ⟨fun h => (by rw [h] at hr; cases hr), fun j hj => ?_⟩
    have hjn : j < n := by
      rcases Nat.lt_or_ge j n with h | h
      · exact h
      · exact absurd hj (tail_waits hs hc hn inv _ i rfl hin hun j h)
    refine ⟨hjn, ?_⟩
    by_cases hji : j = i
    · subst hji; exact hy.qOp hi H
    · have := hdone _ _ H j (ready_mono hj hji)
      omega
  | succ f ih =>
    intro listed a inv hfree hr hy H
    have hun := (mem_ready.1 hr).1
    refine ⟨fun h => (by rw [h] at hr; cases hr), fun j hj => ?_⟩
    have hjn : j < n := by
      rcases Nat.lt_or_ge j n with h | h
      · exact h
      · exact absurd hj (tail_waits hs hc hn inv _ i rfl hin hun j h)
    refine ⟨hjn, ?_⟩
    by_cases hji : j = i
    · subst hji; exact hy.qOp hi H
    · have h1 := (H.2 j (ready_mono hj hji)).2
      obtain ⟨hjun, oj, hoj, hall⟩ := mem_ready.1 hj
      have hnot : ∀ e ∈ oj.after, Region.binds md e = true → e.on ≠ i := fun e he hb heq => by
        have h1 := hall e he hb
        rw [heq, getD_both hun] at h1
        cases h1
      have h2 := qOp_put hoj (hfree j oj hoj hji hjun hnot) (fun cs b => hsel i oi cs b hi) (fun cs b => hsel j oj cs b hoj) hy h1
      have hfree' : ∀ k ok, ops[k]? = some ok → k ≠ i → (listed.setIfInBounds j true).getD k true = false →
          (∀ e ∈ ok.after, Region.binds md e = true → e.on ≠ i) → oi.apart ops ok = true := fun k ok hk hki hun hno => by
        refine hfree k ok hk hki ?_ hno
        by_cases hjk : j = k
        · subst hjk; exact hjun
        · rw [getD_set_ne true hjk] at hun; exact hun
      refine qOp_mono (fun a' h3 => ih (listed.setIfInBounds j true) a' (inv.set hj hjn) hfree' (ready_mono hr (Ne.symm hji)) h3.1 ?_) h2
      rw [Array.setIfInBounds_comm _ _ hji]
      exact h3.2

theorem wpAnyT_lex {n g : Nat} {Lq : Act → Prop} (hsel : Region.noSelect ops = true) (hs : Region.sinkB md ops n = true) (hc : Region.chainB md ops n = true) (hn : n < ops.size) :
    ∀ (l : List Oper) (k : Nat) (listed : Array Bool) (a : Act), (∀ j, j < l.length → l[j]? = ops[k + j]?) → k + l.length = n → HeadInv md ops n listed →
    Region.lexHead md ops g l.length k listed = true → wpQuiet P ops C Lq l a →
    wpAnyT P md ops C n (fun listed' a' => Region.seqB md ops g n listed' = true ∧ Lq a') l.length listed a
  | [], k, listed, a, _, hk, _, hB, h => by
    have : k = n := by simpa using hk
    subst this
    exact ⟨by simpa [Region.lexHead] using hB, h⟩
  | o :: l, k, listed, a, hl, hk, inv, hB, h => by
    have h0 : ops[k]? = some o := by simpa using (hl 0 (by simp)).symm
    simp only [List.length_cons, Region.lexHead, Bool.and_eq_true] at hB
    obtain ⟨⟨hr, hf⟩, hB'⟩ := hB
    have hkn : k < n := by simp only [List.length_cons] at hk; omega
    have hr' : k ∈ Region.ready md ops listed := by simpa using hr
    have hst : qOp P ops C k (wpQuiet P ops C Lq l) a := by unfold qOp; simp only [h0]; exact h
    obtain ⟨v, hy, hK⟩ := yieldsIn_of_qOp h0 hst
    exact wpAnyT_first h0 (Region.noSelect_spec hsel) hs hc hn hkn (fun listed' a' hL => seqB_ready hL.1) l.length listed a inv (Region.free_spec h0 hf) hr' hy
      (wpAnyT_lex hsel hs hc hn l (k + 1) _ _ (fun j hj => by have := hl (j + 1) (by simp; omega); simpa [Nat.add_assoc, Nat.add_comm 1 j] using this) (by simp only [List.length_cons] at hk; omega) (inv.set hr' hkn) hB' hK)

/-- n quiet operations, then the others one behind the other, from any later world. -/
theorem wp_region_later_tail {P : Program} {id : Nat} {Q : Exit → Act → World → Prop} {a : Act} {w : World} {l : List Oper} (n : Nat) (hm : P.follows .mixedOrders = true) (hB : Region.lexTailB .any l.toArray n = true)
    (h : wpQuiet P l.toArray (fun w' => ∃ x : Later w, w' = x.W) (fun a' => ∀ w', (∃ x : Later w, w' = x.W) → wpList P l.toArray Q (l.drop n) a' w') (l.take n) a) : (Code.region id l.toArray true).wp P Q a w := by
  simp only [Region.lexTailB, Bool.and_eq_true, decide_eq_true_eq] at hB
  obtain ⟨⟨⟨⟨hsel, hn⟩, hs⟩, hc⟩, hlex⟩ := hB
  have hn' : n < l.length := by simpa using hn
  have htl : (l.take n).length = n := by simp; omega
  have hdl : (l.drop n).length = l.toArray.size - n := by simp
  have inv0 : HeadInv .any l.toArray n (Array.replicate l.toArray.size false) :=
    ⟨by simp, fun j oj _ hl => (by rw [getD_replicate_false] at hl; cases hl), fun t _ ht => getD_in (by simpa using ht) (getD_replicate_false _ _)⟩
  have H := wpAnyT_lex (md := .any) (g := l.toArray.size - n) hsel hs hc hn (l.take n) 0 _ a (fun j hj => by
    have hj' : j < n := by rw [htl] at hj; exact hj
    simp [hj']) (by simpa using htl) inv0 (by rw [htl]; exact hlex) h
  refine wp_region_any hm ?_
  have := wpAny_of_headT (Q' := Q) (g := l.toArray.size - n) (fun listed a' w' hw' hL => by
    have := wpAny_of_seq (md := .any) (Q' := Q) (l.drop n) n listed a' w' (fun j => by simp [List.getElem?_drop]) (by rw [hdl]; exact hL.1) (hL.2 w' hw')
    rwa [hdl] at this) _ _ _ { w with drawn := w.drawn + 1 } ⟨⟨w.drew, (Below.refl _ _).drew⟩, rfl⟩ H
  rw [htl, show n + (l.toArray.size - n) = l.toArray.size by omega] at this
  exact this
end

/-! ### How a datum is laid in cells -/

structure Lay (α : Type) where
  size : Nat
  rep : World → α → List Value → Prop
  len : ∀ {w x vs}, rep w x vs → vs.length = size
  mono : ∀ {w w' x vs}, Below w.heap.size w w' → rep w x vs → rep w' x vs

/-- Laid in cells of its own, whatever the world. -/
def Lay.plain {α : Type} (size : Nat) (cells : α → List Value) (h : ∀ x, (cells x).length = size) : Lay α := { size := size, rep := fun _ x vs => vs = cells x, len := fun e => by rw [e]; exact h _, mono := fun _ e => e }
def Lay.int : Lay Int := Lay.plain 1 (fun x => [.int .i64 x]) fun _ => rfl
def Lay.u64 : Lay Int := Lay.plain 1 (fun x => [.int .u64 x]) fun _ => rfl
def Lay.bool : Lay Bool := Lay.plain 1 (fun x => [.bool x]) fun _ => rfl
def Lay.str : Lay ByteArray := Lay.plain 1 (fun x => [.string x]) fun _ => rfl
def Lay.and {α β : Type} (L : Lay α) (M : Lay β) : Lay (α × β) :=
  { size := L.size + M.size, rep := fun w x vs => ∃ us ts, vs = us ++ ts ∧ L.rep w x.1 us ∧ M.rep w x.2 ts,
    len := fun ⟨us, ts, e, h1, h2⟩ => by rw [e, List.length_append, L.len h1, M.len h2],
    mono := fun hb ⟨us, ts, e, h1, h2⟩ => ⟨us, ts, e, L.mono hb h1, M.mono hb h2⟩ }

/-- The memory behind a slice's address holds the list. -/
def Sl {α : Type} (L : Lay α) (w : World) (A : Option Addr) (l : List α) : Prop :=
  ∀ i x, l[i]? = some x → ∃ b o vs, A = some ⟨b, o, none⟩ ∧ b < w.heap.size ∧ L.rep w x vs ∧ ∀ j v, vs[j]? = some v → w.cell? ⟨b, o + i * L.size + j, none⟩ = some v

section
variable {α : Type} {L : Lay α} {w w' : World} {A : Option Addr} {l : List α}
theorem Sl.nil : Sl L w A [] := fun i x h => by simp at h
theorem Sl.mono (h : Sl L w A l) (hb : Below w.heap.size w w') : Sl L w' A l := fun i x hx => by
  obtain ⟨b, o, vs, e, hlt, hr, hc⟩ := h i x hx
  exact ⟨b, o, vs, e, Nat.lt_of_lt_of_le hlt hb.size, L.mono hb hr, fun j v hj => by rw [hb.cell (p := ⟨b, _, none⟩) hlt]; exact hc j v hj⟩
theorem Sl.later (h : Sl L w A l) (x : Later w) : Sl L x.W A l := h.mono x.h
end

def Lay.slice {α : Type} (L : Lay α) : Lay (List α) :=
  { size := 1, rep := fun w l vs => ∃ A c, vs = [.slice A l.length c] ∧ l.length ≤ c ∧ Sl L w A l,
    len := fun ⟨A, c, e, _, _⟩ => by rw [e]; rfl,
    mono := fun hb ⟨A, c, e, hc, h⟩ => ⟨A, c, e, hc, h.mono hb⟩ }

section
variable {w : World} {A : Option Addr}
theorem Sl.int_at {l : List Int} (h : Sl Lay.int w A l) {i : Nat} (hi : i < l.length) : ∃ b o, A = some ⟨b, o, none⟩ ∧ b < w.heap.size ∧ w.cell? ⟨b, o + i, none⟩ = some (.int .i64 l[i]) := by
  obtain ⟨b, o, vs, e, hlt, hr, hc⟩ := h i l[i] (List.getElem?_eq_getElem hi)
  simp only [Lay.int, Lay.plain] at hr hc
  subst hr
  exact ⟨b, o, e, hlt, by have := hc 0 _ rfl; rwa [Nat.mul_one, Nat.add_zero] at this⟩
theorem Sl.u64_at {l : List Int} (h : Sl Lay.u64 w A l) {i : Nat} (hi : i < l.length) : ∃ b o, A = some ⟨b, o, none⟩ ∧ b < w.heap.size ∧ w.cell? ⟨b, o + i, none⟩ = some (.int .u64 l[i]) := by
  obtain ⟨b, o, vs, e, hlt, hr, hc⟩ := h i l[i] (List.getElem?_eq_getElem hi)
  simp only [Lay.u64, Lay.plain] at hr hc
  subst hr
  exact ⟨b, o, e, hlt, by have := hc 0 _ rfl; rwa [Nat.mul_one, Nat.add_zero] at this⟩
theorem Sl.str_at {l : List ByteArray} (h : Sl Lay.str w A l) {i : Nat} (hi : i < l.length) : ∃ b o, A = some ⟨b, o, none⟩ ∧ b < w.heap.size ∧ w.cell? ⟨b, o + i, none⟩ = some (.string l[i]) := by
  obtain ⟨b, o, vs, e, hlt, hr, hc⟩ := h i l[i] (List.getElem?_eq_getElem hi)
  simp only [Lay.str, Lay.plain] at hr hc
  subst hr
  exact ⟨b, o, e, hlt, by have := hc 0 _ rfl; rwa [Nat.mul_one, Nat.add_zero] at this⟩
/-- A struct of two ints. -/
def Lay.int2 : Lay (Int × Int) := Lay.plain 2 (fun x => [.int .i64 x.1, .int .i64 x.2]) fun _ => rfl
theorem Sl.int2_at {l : List (Int × Int)} (h : Sl Lay.int2 w A l) {i : Nat} (hi : i < l.length) : ∃ b o, A = some ⟨b, o, none⟩ ∧ b < w.heap.size ∧ w.cell? ⟨b, o + i * 2, none⟩ = some (.int .i64 l[i].1) ∧ w.cell? ⟨b, o + i * 2 + 1, none⟩ = some (.int .i64 l[i].2) := by
  obtain ⟨b, o, vs, e, hlt, hr, hc⟩ := h i l[i] (List.getElem?_eq_getElem hi)
  simp only [Lay.int2, Lay.plain] at hr hc
  subst hr
  exact ⟨b, o, e, hlt, hc 0 _ rfl, hc 1 _ rfl⟩
end

/-- Out of a row that the call owns. -/
theorem Sl.of_own {α : Type} {L : Lay α} {cells : α → List Value} {w : World} {base : Nat} {e : TypeId} {A : Option Addr} {n c : Nat} {xs : List Value} {l : List α}
    (hL : ∀ x, L.rep w x (cells x)) (h : w.ownsRow base e L.size (.slice A n c) n xs) (hxs : xs = l.flatMap cells) (hn : l.length = n) : Sl L w A l := by
  intro i x hx
  have hi : i < l.length := (List.getElem?_eq_some_iff.1 hx).1
  obtain ⟨g, cap, hv, _, hlt⟩ := h.form (by omega)
  have hA : A = some ⟨g, 0, none⟩ := by injection hv
  subst hA
  refine ⟨g, 0, cells x, rfl, hlt, hL x, fun j v hj => ?_⟩
  have hcell := h.cells (g := g) rfl (i * L.size + j) v
  have : (⟨g, 0 + i * L.size + j, none⟩ : Addr) = (⟨g, 0, none⟩ : Addr).add (i * L.size + j) := by
    unfold Addr.add
    split
    · rename_i h0; rw [Nat.add_assoc, h0]
    · simp
  rw [this]
  apply hcell
  rw [hxs]
  clear hcell this hxs h hv hn
  induction l generalizing i with
  | nil => simp at hx
  | cons y r ih =>
    cases i with
    | zero =>
      simp only [List.getElem?_cons_zero, Option.some.injEq] at hx
      subst hx
      simp only [Nat.zero_mul, Nat.zero_add, List.flatMap_cons]
      rw [List.getElem?_append_left (List.getElem?_eq_some_iff.1 hj).1]
      exact hj
    | succ i =>
      simp only [List.getElem?_cons_succ] at hx
      have hy : (cells y).length = L.size := L.len (hL y)
      rw [List.flatMap_cons, List.getElem?_append_right (by rw [hy, Nat.succ_mul]; omega), hy]
      have e2 : (i + 1) * L.size + j - L.size = i * L.size + j := by rw [Nat.succ_mul]; omega
      rw [e2]
      exact ih i hx (by simpa using hi)

/-! ### A slice that the call itself made -/

/-- What append and make ask of a slice type and its element type. -/
structure ElemTy (P : Program) (t e : TypeId) (size bytes : Nat) (z : Value) : Prop where
  under : P.underlying t = some (.slice e)
  info : (P.info? e).map (fun i => (i.zero, i.size, i.bytes)) = some (some z, size, bytes)
  zero : z.cells.size = size
  pos : 0 < size

/-- The slice value v is nil or a row of the call's own (in a block from base on); its elements are l, each laid in the cells that 'cells' gives. -/
def Own {α : Type} (cells : α → List Value) (size base : Nat) (e : TypeId) (w : World) (v : Value) (l : List α) : Prop := w.ownsRow base e size v l.length (l.flatMap cells)

/-- Cells of one size, none of them an aggregate. -/
structure CellsOk {α : Type} (cells : α → List Value) (size : Nat) : Prop where
  len : ∀ x, (cells x).length = size
  one : ∀ x, ∀ u ∈ cells x, u.oneCell' = true

section
variable {α : Type} {cells : α → List Value} {size base : Nat} {e : TypeId} {w w' : World} {v : Value} {l : List α}
theorem Own.nil : Own cells size base e w (.slice none 0 0) [] := World.ownsRow_nil w base e size
theorem Own.mono (h : Own cells size base e w v l) (hb : Below w.heap.size w w') : Own cells size base e w' v l :=
  World.ownsRow.kept h (row := none) ⟨hb.os, hb.tape, hb.output, hb.size, fun k hk _ => hb.block k hk⟩ (by cases v.ownBlock <;> simp)
theorem Own.alloc (h : Own cells size base e w v l) (o : Obj) : Own cells size base e (w.alloc o) v l := h.mono (bw_alloc (Below.refl _ _))
theorem Own.later (h : Own cells size base e w v l) (x : Later w) : Own cells size base e x.W v l := h.mono x.h
/-- A block that was just laid. -/
theorem Own.lit (w : World) (cs : Array Value) (l : List α) (hb : base ≤ w.heap.size) (hm : l.length ≤ maxLen) (hs : cs.size = l.length * size) (hc : cs.toList = l.flatMap cells) :
    Own cells size base e (w.alloc (.cells cs e)) (.slice (some ⟨w.heap.size, 0, none⟩) l.length l.length) l := by
  unfold Own
  rw [← hc]
  exact World.ownsRow_lit w cs l.length hb hm hs
theorem Own.sl {L : Lay α} (h : Own cells size base e w v l) (hs : L.size = size) (hL : ∀ x, L.rep w x (cells x)) : ∃ A c, v = .slice A l.length c ∧ l.length ≤ c ∧ Sl L w A l := by
  subst hs
  rcases h.2 with ⟨rfl, h0⟩ | ⟨g, cap, cur, rfl, _, _, hc, _⟩
  · have : l = [] := List.eq_nil_of_length_eq_zero h0
    subst this
    exact ⟨none, 0, rfl, Nat.le_refl _, Sl.nil⟩
  · exact ⟨_, cap, rfl, hc, Sl.of_own hL h rfl rfl⟩
theorem Own.le (h : Own cells size base e w v l) : l.length ≤ maxLen := by
  rcases h.2 with ⟨_, h0⟩ | ⟨_, _, _, _, _, _, h1, h2, _⟩
  · omega
  · omega
end

/-- 'append(s, y)': one element, which lies in a block of its own. -/
theorem wpList_push {P : Program} {α : Type} {cells : α → List Value} {t e : TypeId} {size bytes : Nat} {z : Value} (T : ElemTy P t e size bytes z) (hc : CellsOk cells size)
    {ops : Array Oper} {rest : List Oper} {o : Oper} {a : Act} {Q : Exit → Act → World → Prop} {w : World} (hgd : o.guard = none) (s x : Operand)
    (ho : o.op = .call { callee := .builtin .append, args := #[s, x], argTypes := #[t, t] }) (base : Nat) (v : Value) (l : List α) (hs : a.eval s = v) (hown : Own cells size base e w v l)
    (y : α) (g c : Nat) (hx : a.eval x = .slice (some ⟨g, 0, none⟩) 1 c) (hy : ∀ j u, (cells y)[j]? = some u → w.cell? ⟨g, j, none⟩ = some u)
    (h63 : l.length + 1 ≤ maxLen) (hbytes : (l.length + 1) * bytes ≤ 140737488355328) (hbase : base ≤ w.heap.size)
    (h : ∀ v' w', Own cells size base e w' v' (l ++ [y]) → Below base w w' → wpList P ops Q rest (a.put o.dst v') w') : wpList P ops Q (o :: rest) a w := by
  obtain ⟨i, hi, hz, hsz, hby⟩ := info_parts T.info
  refine wpList_append_own_at w hgd s x t ho base e i z size bytes T.under hi hz hsz hby T.zero T.pos v l.length (l.flatMap cells) hs hown ⟨g, 0, none⟩ 1 c (cells y) hx
    (by rw [hc.len, Nat.one_mul]) (fun j u hu => by
      have := hy j u hu
      unfold Addr.add
      split
      · rename_i h0; rw [h0] at this; exact this
      · simpa using this) (hc.one y) h63 hbytes hbase ?_
  intro v' w' hown' hg _ _
  refine h v' w' ?_ ((Below.refl _ _).grown hg hbase fun k hk => (hown.lt k hk).1)
  unfold Own
  rw [List.flatMap_append, List.length_append, List.flatMap_singleton]
  exact hown'

def cellsInt (x : Int) : List Value := [.int .i64 x]
theorem cellsInt_ok : CellsOk cellsInt 1 := ⟨fun _ => rfl, fun _ u hu => by simp [cellsInt] at hu; subst hu; rfl⟩
def cellsInt2 (x : Int × Int) : List Value := [.int .i64 x.1, .int .i64 x.2]
theorem cellsInt2_ok : CellsOk cellsInt2 2 := ⟨fun _ => rfl, fun _ u hu => by simp [cellsInt2] at hu; rcases hu with rfl | rfl <;> rfl⟩
theorem cells_one_new (w : World) (u : Value) (t : TypeId) : ∀ j v, [u][j]? = some v → (w.alloc (.cells #[u] t)).cell? ⟨w.heap.size, j, none⟩ = some v := by
  intro j v hj
  match j, hj with
  | 0, hj => simp at hj; subst hj; simp
theorem cells_two_new (w : World) (u1 u2 : Value) (t : TypeId) : ∀ j v, [u1, u2][j]? = some v → (w.alloc (.cells #[u1, u2] t)).cell? ⟨w.heap.size, j, none⟩ = some v := by
  intro j v hj
  match j, hj with
  | 0, hj => simp at hj; subst hj; simp
  | 1, hj => simp at hj; subst hj; simp

/-- Words of 64 bits. -/
def Lay.word : Lay Nat := Lay.plain 1 (fun x => [.int .u64 (x : Int)]) fun _ => rfl
theorem Sl.word_at {w : World} {A : Option Addr} {l : List Nat} (h : Sl Lay.word w A l) {i : Nat} (hi : i < l.length) : ∃ b o, A = some ⟨b, o, none⟩ ∧ b < w.heap.size ∧ w.cell? ⟨b, o + i, none⟩ = some (.int .u64 (l[i] : Int)) := by
  obtain ⟨b, o, vs, e, hlt, hr, hc⟩ := h i l[i] (List.getElem?_eq_getElem hi)
  simp only [Lay.word, Lay.plain] at hr hc
  subst hr
  exact ⟨b, o, e, hlt, by have := hc 0 _ rfl; rwa [Nat.mul_one, Nat.add_zero] at this⟩

/-- 'make([]T, n)'. -/
theorem ElemTy.make {P : Program} {t e : TypeId} {size bytes : Nat} {z : Value} (T : ElemTy P t e size bytes z) (kl kc : IntKind) (n : Nat) (hb : bytes * n ≤ 281474976710656) (h63 : n ≤ 9223372036854775807) (w : World) :
    (Instr.makeSlice t (.int kl (n : Int)) (.int kc (n : Int))).run P w = .ok (.slice (some ⟨w.heap.size, 0, none⟩) n n) (w.alloc (.cells (madeCells z.cells (n * size)) e)) := by
  obtain ⟨i, hi, hz, hsz, hby⟩ := info_parts T.info
  have hb' : (i.bytes : Int) * (n : Int) ≤ 281474976710656 := by
    rw [hby]
    have h : ((bytes * n : Nat) : Int) ≤ 281474976710656 := by omega
    rwa [Int.natCast_mul] at h
  have hr := run_make (P := P) w t e i z T.under hi hz kl kc n n (by omega) (by omega) hb' (by omega)
  simp only [Int.toNat_natCast, hsz] at hr
  exact hr
theorem madeCells_one (z : Value) (n : Nat) : (madeCells #[z] n).toList = List.replicate n z := by
  unfold madeCells
  apply List.ext_getElem
  · simp
  · intro i h1 h2
    simp [Nat.mod_one]

section
variable {α : Type} {c : α → Value} {base : Nat} {e : TypeId} {w w' : World} {g n cap : Nat} {l : List α}
theorem flatMap_one (l : List α) : l.flatMap (fun x => [c x]) = l.map c := by
  induction l with
  | nil => rfl
  | cons x r ih => simp [ih]
theorem Own.made (z : Value) (w : World) (n : Nat) (l : List α) (hl : l.length = n) (hb : base ≤ w.heap.size) (hm : n ≤ maxLen) (hc : l.map c = List.replicate n z) :
    Own (fun x => [c x]) 1 base e (w.alloc (.cells (madeCells #[z] n) e)) (.slice (some ⟨w.heap.size, 0, none⟩) n n) l := by
  subst hl
  exact Own.lit w _ l hb hm (by rw [size_madeCells, Nat.mul_one]) (by rw [madeCells_one, flatMap_one, hc])
theorem Own.at1 (h : Own (fun x => [c x]) 1 base e w (.slice (some ⟨g, 0, none⟩) n cap) l) (hn : l.length = n) {i : Nat} (hi : i < l.length) : w.cell? ⟨g, i, none⟩ = some (c l[i]) := by
  subst hn
  rw [World.ownsRow.cellAt h i (by omega), flatMap_one, List.getElem?_map, List.getElem?_eq_getElem hi]
  rfl
theorem Own.free1 (h : Own (fun x => [c x]) 1 base e w (.slice (some ⟨g, 0, none⟩) n cap) l) (hn : l.length = n) (i : Nat) : w.frozen? ⟨g, i, none⟩ = false := by
  subst hn
  exact World.ownsRow.frozenAt h i
theorem Own.set1 (h : Own (fun x => [c x]) 1 base e w (.slice (some ⟨g, 0, none⟩) n cap) l) (hn : l.length = n) (i : Nat) (y : α) : Own (fun x => [c x]) 1 base e (w.setCell ⟨g, i, none⟩ (c y)) (.slice (some ⟨g, 0, none⟩) n cap) (l.set i y) := by
  subst hn
  have := (World.ownsRow.stored h i (c y)).1
  unfold Own
  rw [flatMap_one] at this ⊢
  rw [List.length_set, List.map_set]
  exact this
theorem Own.ge1 (h : Own (fun x => [c x]) 1 base e w (.slice (some ⟨g, 0, none⟩) n cap) l) : base ≤ g ∧ g < w.heap.size := World.ownsRow.lt h g rfl
end
def cellWord (x : Nat) : Value := .int .u64 (x : Int)

theorem madeCells_all (z : Array Value) (hz : 0 < z.size) : ∀ n : Nat, (madeCells z (n * z.size)).toList = (List.replicate n z.toList).flatten
  | 0 => by simp [madeCells]
  | n + 1 => by
    have ih := madeCells_all z hz n
    rw [List.replicate_succ', List.flatten_append, ← ih]
    unfold madeCells
    rw [Nat.succ_mul]
    simp only [Array.toList_map, Array.toList_range]
    rw [List.range_add, List.map_append]
    congr 1
    simp only [List.flatten_cons, List.flatten_nil, List.append_nil, List.map_map]
    apply List.ext_getElem
    · simp
    · intro i h1 h2
      simp at h1
      simp [Nat.mod_eq_of_lt h1, Nat.mul_comm n, h1]
theorem flatMap_replicate {α : Type} (cells : α → List Value) (x : α) (n : Nat) : (List.replicate n x).flatMap cells = (List.replicate n (cells x)).flatten := by
  rw [List.flatMap_def, List.map_replicate]
/-- What 'make' has laid. -/
theorem Own.madeAll {α : Type} {cells : α → List Value} {size base : Nat} {e : TypeId} (z : Value) (x : α) (w : World) (n : Nat) (hz : z.cells.size = size) (hx : z.cells.toList = cells x) (hp : 0 < size) (hb : base ≤ w.heap.size) (hm : n ≤ maxLen) :
    Own cells size base e (w.alloc (.cells (madeCells z.cells (n * size)) e)) (.slice (some ⟨w.heap.size, 0, none⟩) n n) (List.replicate n x) := by
  subst hz
  have := Own.lit (cells := cells) (size := z.cells.size) (base := base) (e := e) w (madeCells z.cells (n * z.cells.size)) (List.replicate n x) hb (by simpa using hm) (by rw [size_madeCells, List.length_replicate]) (by
    rw [madeCells_all _ hp, flatMap_replicate, hx])
  rw [List.length_replicate] at this
  exact this
section
variable {α : Type} {c0 c1 : α → Value} {base : Nat} {e : TypeId} {w w' : World} {g n cap : Nat} {l : List α}
theorem flatMap_two_at (l : List α) (i : Nat) (hi : i < l.length) : (l.flatMap (fun x => [c0 x, c1 x]))[i * 2]? = some (c0 l[i]) ∧ (l.flatMap (fun x => [c0 x, c1 x]))[i * 2 + 1]? = some (c1 l[i]) := by
  induction l generalizing i with
  | nil => simp at hi
  | cons x r ih =>
    cases i with
    | zero => simp
    | succ i =>
      have := ih i (by simpa using hi)
      rw [List.flatMap_cons, show (i + 1) * 2 = i * 2 + 2 by omega]
      simpa using this
theorem flatMap_two_set (l : List α) (i : Nat) (y : α) : ((l.flatMap (fun x => [c0 x, c1 x])).set (i * 2) (c0 y)).set (i * 2 + 1) (c1 y) = (l.set i y).flatMap (fun x => [c0 x, c1 x]) := by
  induction l generalizing i with
  | nil => simp
  | cons x r ih =>
    cases i with
    | zero => simp
    | succ i =>
      rw [List.flatMap_cons, show (i + 1) * 2 = i * 2 + 2 by omega]
      simpa using ih i
theorem Own.at2 (h : Own (fun x => [c0 x, c1 x]) 2 base e w (.slice (some ⟨g, 0, none⟩) n cap) l) (hn : l.length = n) {i : Nat} (hi : i < l.length) :
    w.cell? ⟨g, i * 2, none⟩ = some (c0 l[i]) ∧ w.cell? ⟨g, i * 2 + 1, none⟩ = some (c1 l[i]) := by
  subst hn
  rw [World.ownsRow.cellAt h (i * 2) (by omega), World.ownsRow.cellAt h (i * 2 + 1) (by omega)]
  exact flatMap_two_at l i hi
theorem Own.free2 (h : Own (fun x => [c0 x, c1 x]) 2 base e w (.slice (some ⟨g, 0, none⟩) n cap) l) (hn : l.length = n) (i : Nat) : w.frozen? ⟨g, i, none⟩ = false := by
  subst hn
  exact World.ownsRow.frozenAt h i
theorem Own.set2 (h : Own (fun x => [c0 x, c1 x]) 2 base e w (.slice (some ⟨g, 0, none⟩) n cap) l) (hn : l.length = n) (i : Nat) (y : α) :
    Own (fun x => [c0 x, c1 x]) 2 base e ((w.setCell ⟨g, i * 2, none⟩ (c0 y)).setCell ⟨g, i * 2 + 1, none⟩ (c1 y)) (.slice (some ⟨g, 0, none⟩) n cap) (l.set i y) := by
  subst hn
  have := (World.ownsRow.stored (World.ownsRow.stored h (i * 2) (c0 y)).1 (i * 2 + 1) (c1 y)).1
  unfold Own
  rw [flatMap_two_set] at this
  rw [List.length_set]
  exact this
end

/-- As wpList_push; it also tells that no other old block has turned. -/
theorem wpList_pushG {P : Program} {α : Type} {cells : α → List Value} {t e : TypeId} {size bytes : Nat} {z : Value} (T : ElemTy P t e size bytes z) (hc : CellsOk cells size)
    {ops : Array Oper} {rest : List Oper} {o : Oper} {a : Act} {Q : Exit → Act → World → Prop} {w : World} (hgd : o.guard = none) (s x : Operand)
    (ho : o.op = .call { callee := .builtin .append, args := #[s, x], argTypes := #[t, t] }) (base : Nat) (v : Value) (l : List α) (hs : a.eval s = v) (hown : Own cells size base e w v l)
    (y : α) (g c : Nat) (hx : a.eval x = .slice (some ⟨g, 0, none⟩) 1 c) (hy : ∀ j u, (cells y)[j]? = some u → w.cell? ⟨g, j, none⟩ = some u)
    (h63 : l.length + 1 ≤ maxLen) (hbytes : (l.length + 1) * bytes ≤ 140737488355328) (hbase : base ≤ w.heap.size)
    (h : ∀ v' w', Own cells size base e w' v' (l ++ [y]) → Below base w w' → w.grownBy w' v.ownBlock → wpList P ops Q rest (a.put o.dst v') w') : wpList P ops Q (o :: rest) a w := by
  obtain ⟨i, hi, hz, hsz, hby⟩ := info_parts T.info
  refine wpList_append_own_at w hgd s x t ho base e i z size bytes T.under hi hz hsz hby T.zero T.pos v l.length (l.flatMap cells) hs hown ⟨g, 0, none⟩ 1 c (cells y) hx
    (by rw [hc.len, Nat.one_mul]) (fun j u hu => by
      have := hy j u hu
      unfold Addr.add
      split
      · rename_i h0; rw [h0] at this; exact this
      · simpa using this) (hc.one y) h63 hbytes hbase ?_
  intro v' w' hown' hg _ _
  refine h v' w' ?_ ((Below.refl _ _).grown hg hbase fun k hk => (hown.lt k hk).1) hg
  unfold Own
  rw [List.flatMap_append, List.length_append, List.flatMap_singleton]
  exact hown'
/-- Two rows whose element types differ never share a block. -/
theorem Own.kept_other {α β : Type} {c1 : α → List Value} {c2 : β → List Value} {s1 s2 b1 b2 : Nat} {e1 e2 : TypeId} {w w' : World} {v1 v2 : Value} {l1 : List α} {l2 : List β}
    (h1 : Own c1 s1 b1 e1 w v1 l1) (h2 : Own c2 s2 b2 e2 w v2 l2) (hne : e1 ≠ e2) (hg : w.grownBy w' v2.ownBlock) : Own c1 s1 b1 e1 w' v1 l1 := by
  refine World.ownsRow.kept h1 hg ?_
  rcases h1.2 with ⟨rfl, _⟩ | ⟨g1, cap1, cur1, rfl, _, hh1, _⟩
  · exact Or.inl rfl
  · refine Or.inr fun he => ?_
    rcases h2.2 with ⟨rfl, _⟩ | ⟨g2, cap2, cur2, rfl, _, hh2, _⟩
    · simp [Value.ownBlock] at he
    · have : g1 = g2 := by simpa [Value.ownBlock] using he
      subst this
      rw [hh1] at hh2
      injection hh2 with hh2
      injection hh2 with _ ht
      exact hne ht
theorem Own.form {α : Type} {cells : α → List Value} {size base : Nat} {e : TypeId} {w : World} {A : Option Addr} {n c : Nat} {l : List α} (h : Own cells size base e w (.slice A n c) l) (hl : 0 < l.length) :
    ∃ g, A = some ⟨g, 0, none⟩ ∧ base ≤ g ∧ g < w.heap.size ∧ n = l.length := by
  obtain ⟨g, cap, hv, hb, hlt⟩ := World.ownsRow.form h hl
  simp only [Value.slice.injEq] at hv
  exact ⟨g, hv.1, hb, hlt, hv.2.1⟩

end Go.Proofs.YtlcdnkloijehjaaGreatDoor
