/-
  Maps that the call itself makes, as functions from keys to optional values. It holds no statement about the program.
-/
import Derived.Test.YthabojhnliomnaaGreatDoorLib
import Derived.Maps.OwnOps
import Derived.Maps.OwnSet
import Derived.Maps.Views
namespace Go.Proofs.YthabojhnliomnaaGreatDoor
open Go.RowKit
set_option linter.unusedVariables false

/-- What is asked of a map type: its keys are the values κ x (x with okk), its elements the values ν y (y with okv). -/
structure MapTy {α β : Type} (P : Program) (t k e : TypeId) (κ : α → Value) (okk : α → Prop) (lit : α → Lit) (ν : β → Value) (okv : β → Prop) (dat : β → DataW Unit) (zero : β) : Prop where
  under : P.underlying t = some (.map k e)
  keyed : Maps.Keyed P k
  key : ∀ x, okk x → keyOf P k (κ x) = some (lit x)
  linj : ∀ x y, lit x = lit y → x = y
  val : ∀ y, okv y → plainElem P e (ν y) = some (dat y, [])
  inv : ∀ v y ps, plainElem P e v = some (dat y, ps) → v = ν y
  zok : okv zero
  zeros : ∀ w, (zeroValue e).run P w = .ok (ν zero) w

section
variable {α β : Type} {P : Program} {t k e : TypeId} {κ : α → Value} {okk : α → Prop} {lit : α → Lit} {ν : β → Value} {okv : β → Prop} {dat : β → DataW Unit} {zero : β}

/-- Block b is a map of at most n entries that holds what f says. -/
def MapIs (T : MapTy P t k e κ okk lit ν okv dat zero) (w : World) (b n : Nat) (f : α → Option β) : Prop :=
  ∃ D : DataW Unit, Maps.IsMap D ∧ w.ownsMap P k (plainElem P e) b n D ∧ ∀ x, okk x → Maps.has D (lit x) = (f x).isSome ∧ D.atKey (lit x) (dat zero) = dat ((f x).getD zero)

variable {T : MapTy P t k e κ okk lit ν okv dat zero} {w w' : World} {b n : Nat} {f : α → Option β}
theorem MapIs.made (T : MapTy P t k e κ okk lit ν okv dat zero) (w : World) : MapIs T (w.alloc (.map #[] 0)) w.heap.size 0 (fun _ => none) :=
  ⟨.map [], Maps.isMap_empty, World.ownsMap_made w P k _, fun x _ => ⟨rfl, rfl⟩⟩
theorem MapIs.lt (h : MapIs T w b n f) : b < w.heap.size := let ⟨_, _, h1, _⟩ := h; h1.lt
theorem MapIs.kept {row : Option Nat} (h : MapIs T w b n f) (hg : w.grownBy w' row) (hne : some b ≠ row) : MapIs T w' b n f := by
  obtain ⟨D, h1, h2, h3⟩ := h
  exact ⟨D, h1, h2.kept hg hne, h3⟩
theorem MapIs.mono (h : MapIs T w b n f) (hb : Below w.heap.size w w') : MapIs T w' b n f :=
  h.kept (row := none) ⟨hb.os, hb.tape, hb.output, hb.size, fun k hk _ => hb.block k hk⟩ (by simp)
theorem MapIs.below {B : Nat} (h : MapIs T w b n f) (hlt : b < B) (hb : Below B w w') : MapIs T w' b n f := by
  obtain ⟨D, h1, ⟨es, clock, hh, F, hs, hD⟩, h3⟩ := h
  exact ⟨D, h1, ⟨es, clock, (hb.block b hlt).trans hh, F, hs, hD⟩, h3⟩
theorem MapIs.alloc (h : MapIs T w b n f) (o : Obj) : MapIs T (w.alloc o) b n f := h.mono (bw_alloc (Below.refl _ _))
theorem MapIs.later (h : MapIs T w b n f) (x : Later w) : MapIs T x.W b n f := h.mono x.h
theorem MapIs.look (h : MapIs T w b n f) {x : α} (hx : okk x) : (Instr.lookup t (.map (some b)) (κ x) false).run P w = .ok (ν ((f x).getD zero)) w := by
  obtain ⟨D, h1, h2, h3⟩ := h
  obtain ⟨v, ps, hrun, hv⟩ := h2.lookup T.keyed T.under (T.zeros w) (T.val zero T.zok) (T.key x hx)
  rw [(h3 x hx).2] at hv
  rw [hrun, T.inv v _ ps hv]
theorem MapIs.look_ok (h : MapIs T w b n f) {x : α} (hx : okk x) : (Instr.lookup t (.map (some b)) (κ x) true).run P w = .ok (.tuple #[ν ((f x).getD zero), .bool (f x).isSome]) w := by
  obtain ⟨D, h1, h2, h3⟩ := h
  obtain ⟨v, ps, hrun, hv⟩ := h2.look_ok T.keyed T.under (T.zeros w) (T.val zero T.zok) (T.key x hx)
  rw [(h3 x hx).2] at hv
  rw [hrun, T.inv v _ ps hv, (h3 x hx).1]

def putF [DecidableEq α] (f : α → Option β) (x : α) (y : β) : α → Option β := fun z => if z = x then some y else f z

theorem MapIs.set [DecidableEq α] (h : MapIs T w b n f) {x : α} {y : β} (hx : okk x) (hy : okv y) (hn : n < maxLen) :
    ∃ w', (Instr.mapUpdate t (.map (some b)) (κ x) (ν y)).run P w = .ok () w' ∧ MapIs T w' b (n + 1) (putF f x y) ∧ w.grownBy w' (some b) := by
  obtain ⟨D, h1, h2, h3⟩ := h
  obtain ⟨w', hrun, r1, r2⟩ := h2.update T.keyed T.under hn (T.key x hx) (T.val y hy)
  refine ⟨w', hrun, ⟨_, h1.put _ _, r1, fun z hz => ?_⟩, r2⟩
  have hk := T.keyed.key (T.key x hx)
  unfold putF
  by_cases e1 : z = x
  · subst e1
    rw [if_pos rfl, Maps.has_put_same h1 hk, Maps.atKey_put_same h1 hk]
    exact ⟨rfl, rfl⟩
  · have hne : lit z ≠ lit x := fun h => e1 (T.linj _ _ h)
    rw [if_neg e1, Maps.has_put_other hne, Maps.atKey_put_other hne]
    exact h3 z hz
end

/-- 'm[x] = y' at the operation. -/
theorem wpList_mapSet {α β : Type} [DecidableEq α] {P : Program} {t k e : TypeId} {κ : α → Value} {okk : α → Prop} {lit : α → Lit} {ν : β → Value} {okv : β → Prop} {dat : β → DataW Unit} {zero : β} (T : MapTy P t k e κ okk lit ν okv dat zero)
    {w : World} {ops : Array Oper} {rest : List Oper} {o : Oper} {a : Act} {Q : Exit → Act → World → Prop} (hg : o.guard = none) (m x v : Operand) (hop : o.op = Op.mapUpdate t m x v)
    (b n : Nat) (f : α → Option β) (hm : a.eval m = .map (some b)) (hown : MapIs T w b n f) (hn : n < maxLen) (kx : α) (y : β) (hx : a.eval x = κ kx) (hv : a.eval v = ν y) (hkx : okk kx) (hy : okv y)
    (hK : ∀ w', MapIs T w' b (n + 1) (putF f kx y) → w.grownBy w' (some b) → wpList P ops Q rest (a.put o.dst undef) w') :
    wpList P ops Q (o :: rest) a w := by
  refine wpList_plain hg fun K' hK' => ?_
  obtain ⟨w', hrun, r1, r2⟩ := hown.set hkx hy hn
  unfold Oper.wp
  simp [execOp, hop, hm, hx, hv, hrun, Result.andThen]
  exact hK' _ _ (hK w' r1 r2)

def okInt (x : Int) : Prop := (Lit.int .i64 x).wf = true
theorem okInt_of {x : Int} (h1 : -9223372036854775808 ≤ x) (h2 : x ≤ 9223372036854775807) : okInt x := by
  simp [okInt, Lit.wf, IntKind.min, IntKind.max, IntKind.signed, IntKind.bits]; omega
/-- map[int]bool. -/
theorem MapTy.int_bool {P : Program} {t k e : TypeId} (ht : P.underlying t = some (.map k e)) (hk : P.underlying k = some (.int .i64)) (he : P.underlying e = some .bool) (hz : ∀ w, (zeroValue e).run P w = .ok (.bool false) w) :
    MapTy P t k e (fun x : Int => .int .i64 x) okInt (fun x => .int .i64 x) (fun y : Bool => .bool y) (fun _ => True) (fun y => .lit (.bool y)) false :=
  { under := ht, keyed := Maps.int_keyed hk, key := fun x hx => Maps.keyOf_int_mk hk hx, linj := fun x y h => by injection h, val := fun y _ => plainElem_bool he y,
    inv := fun v y ps h => by
      unfold plainElem at h
      rw [he] at h
      cases v <;> simp at h
      obtain ⟨rfl, _⟩ := h
      rfl
    zok := trivial, zeros := hz }
/-- map[int]int. -/
theorem MapTy.int_int {P : Program} {t k e : TypeId} (ht : P.underlying t = some (.map k e)) (hk : P.underlying k = some (.int .i64)) (he : P.underlying e = some (.int .i64)) (hz : ∀ w, (zeroValue e).run P w = .ok (.int .i64 0) w) :
    MapTy P t k e (fun x : Int => .int .i64 x) okInt (fun x => .int .i64 x) (fun y : Int => .int .i64 y) okInt (fun y => .lit (.int .i64 y)) 0 :=
  { under := ht, keyed := Maps.int_keyed hk, key := fun x hx => Maps.keyOf_int_mk hk hx, linj := fun x y h => by injection h, val := fun y hy => plainElem_int he hy,
    inv := fun v y ps h => by
      obtain ⟨a, rfl, h2, _⟩ := plainElem_int_inv he h
      simp at h2
      obtain ⟨rfl, _⟩ := h2
      rfl
    zok := okInt_of (by omega) (by omega), zeros := hz }
end Go.Proofs.YthabojhnliomnaaGreatDoor
