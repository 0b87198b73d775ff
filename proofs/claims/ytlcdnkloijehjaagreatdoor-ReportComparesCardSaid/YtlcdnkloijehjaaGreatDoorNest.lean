/-
  Rows whose elements hold slices themselves: appending whole slices, boxes beside rows, the layout out of raw cells. It holds no statement about the program.
-/
import Derived.Test.YtlcdnkloijehjaaGreatDoorOpen
import Derived.Test.YtlcdnkloijehjaaGreatDoorBox
import Derived.Laws.OwnMore
namespace Go.Proofs.YtlcdnkloijehjaaGreatDoor
open Go.RowKit
set_option linter.unusedVariables false

theorem flatMap_get {α : Type} {cells : α → List Value} {size : Nat} (hsz : ∀ x, (cells x).length = size) (hp : 0 < size) : ∀ (l : List α) (j : Nat) (u : Value), (l.flatMap cells)[j]? = some u → ∃ i r x, j = i * size + r ∧ r < size ∧ l[i]? = some x ∧ (cells x)[r]? = some u
  | [], j, u, h => by simp at h
  | y :: l, j, u, h => by
    rw [List.flatMap_cons] at h
    rcases Nat.lt_or_ge j size with hj | hj
    · rw [List.getElem?_append_left (by rw [hsz]; exact hj)] at h
      exact ⟨0, j, y, by omega, hj, rfl, h⟩
    · rw [List.getElem?_append_right (by rw [hsz]; exact hj), hsz] at h
      obtain ⟨i, r, x, h1, h2, h3, h4⟩ := flatMap_get hsz hp l (j - size) u h
      exact ⟨i + 1, r, x, by rw [Nat.succ_mul]; omega, h2, by simpa using h3, h4⟩

theorem flatMap_at {α : Type} {cells : α → List Value} {size : Nat} (hsz : ∀ x, (cells x).length = size) : ∀ (l : List α) (i : Nat) (hi : i < l.length) (j : Nat) (u : Value), (cells l[i])[j]? = some u → (l.flatMap cells)[i * size + j]? = some u
  | [], i, hi, j, u, h => by simp at hi
  | z :: r, 0, hi, j, u, h => by
    have hj : j < (cells z).length := (List.getElem?_eq_some_iff.1 h).1
    rw [Nat.zero_mul, Nat.zero_add, List.flatMap_cons, List.getElem?_append_left hj]
    exact h
  | z :: r, i + 1, hi, j, u, h => by
    rw [List.flatMap_cons, List.getElem?_append_right (by rw [hsz, Nat.succ_mul]; omega), hsz]
    have e2 : (i + 1) * size + j - size = i * size + j := by rw [Nat.succ_mul]; omega
    rw [e2]
    exact flatMap_at hsz r i (by simpa using hi) j u (by simpa using h)

section
variable {α : Type} {L : Lay α} {cells : α → List Value} {size base : Nat} {e : TypeId} {w w' : World} {v : Value} {l : List α}
/-- The cells of a slice, one behind the other. -/
theorem Sl.news {ad : Addr} (hL : ∀ x vs, L.rep w x vs → vs = cells x) (hs : L.size = size) (hc : CellsOk cells size) (hp : 0 < size) (h : Sl L w (some ad) l) : ∀ j u, (l.flatMap cells)[j]? = some u → w.cell? (ad.add j) = some u := by
  intro j u hj
  obtain ⟨i, r, x, h1, h2, h3, h4⟩ := flatMap_get hc.len hp l j u hj
  obtain ⟨b, o, vs, e, hlt, hr, hcell⟩ := h i x h3
  obtain rfl : ad = ⟨b, o, none⟩ := by injection e
  obtain rfl := hL x vs hr
  have := hcell r u h4
  rw [hs] at this
  rw [add_form, h1, ← Nat.add_assoc]
  exact this
theorem Sl.none_nil (h : Sl L w none l) : l = [] := by
  cases l with
  | nil => rfl
  | cons x l => obtain ⟨b, o, vs, e, _⟩ := h 0 x rfl; cases e

theorem run_append_none0 {P : Program} (t ty e : TypeId) (i : TypeInfo) (size c : Nat) (ht : P.underlying t = some (.slice e)) (hi : P.info? e = some i)
    (v : Value) (n : Nat) (xs : List Value) (hown : w.ownsRow base e size v n xs) :
    (Builtin.append_ #[t, t] ty #[v, .slice none 0 c]).run P w = .ok v w := by
  rcases hown.2 with ⟨rfl, rfl⟩ | ⟨g, cap, cur, rfl, _, _, hnc, _⟩
  · simp [Builtin.append_, run_underlying ht, sizeOf, typeInfo, hi, Builtin.lenOf, Builtin.firstCells]
  · simp [Builtin.append_, run_underlying ht, sizeOf, typeInfo, hi, Builtin.lenOf, Builtin.firstCells, hnc, storeCells]

/-- 'append(s, x...)'. -/
theorem run_pushAll {P : Program} {t : TypeId} {bytes : Nat} {z : Value} (T : ElemTy P t e size bytes z) (hc : CellsOk cells size) (ty : TypeId) (hown : Own cells size base e w v l) {A : Option Addr} {c : Nat} {l2 : List α}
    (hL : ∀ x vs, L.rep w x vs → vs = cells x) (hs : L.size = size) (h2 : Sl L w A l2) (h63 : l.length + l2.length ≤ maxLen) (hbytes : (l.length + l2.length) * bytes ≤ 140737488355328) (hbase : base ≤ w.heap.size) :
    ∃ v' w', (Builtin.append_ #[t, t] ty #[v, .slice A l2.length c]).run P w = .ok v' w' ∧ Own cells size base e w' v' (l ++ l2) ∧ Below base w w' ∧ w.grownBy w' v.ownBlock ∧ w.heap.size ≤ w'.heap.size := by
  obtain ⟨i, hi, hz, hsz, hby⟩ := info_parts T.info
  cases A with
  | none =>
    obtain rfl := h2.none_nil
    refine ⟨v, w, run_append_none0 t ty e i size c T.under hi v l.length (l.flatMap cells) hown, by rw [List.append_nil]; exact hown, Below.refl _ _, ⟨rfl, rfl, rfl, Nat.le_refl _, fun _ _ _ => rfl⟩, Nat.le_refl _⟩
  | some ad =>
    have hlen : (l2.flatMap cells).length = l2.length * size := by
      clear h2 h63 hbytes
      induction l2 with
      | nil => simp
      | cons x l2 ih => rw [List.flatMap_cons, List.length_append, ih, hc.len, List.length_cons, Nat.succ_mul]; omega
    obtain ⟨v', w', hr, ho, hg, _, _⟩ := run_append_own_at (P := P) w base t ty e i z size bytes T.under hi hz hsz hby T.zero T.pos v l.length (l.flatMap cells) hown ad l2.length c (l2.flatMap cells) hlen
      (h2.news hL hs hc T.pos) (fun u hu => by
        obtain ⟨x, _, hx⟩ := List.mem_flatMap.1 hu
        exact hc.one x u hx) h63 hbytes hbase
    refine ⟨v', w', hr, ?_, (Below.refl _ _).grown hg hbase fun k hk => (hown.lt k hk).1, hg, hg.size⟩
    unfold Own
    rw [List.flatMap_append, List.length_append]
    exact ho

/-- 'append(s, y)': the run alone. -/
theorem run_push {P : Program} {t : TypeId} {bytes : Nat} {z : Value} (T : ElemTy P t e size bytes z) (hc : CellsOk cells size) (ty : TypeId) (hown : Own cells size base e w v l) (y : α) (g c : Nat)
    (hy : ∀ j u, (cells y)[j]? = some u → w.cell? ⟨g, j, none⟩ = some u) (h63 : l.length + 1 ≤ maxLen) (hbytes : (l.length + 1) * bytes ≤ 140737488355328) (hbase : base ≤ w.heap.size) :
    ∃ v' w', (Builtin.append_ #[t, t] ty #[v, .slice (some ⟨g, 0, none⟩) 1 c]).run P w = .ok v' w' ∧ Own cells size base e w' v' (l ++ [y]) ∧ Below base w w' ∧ w.grownBy w' v.ownBlock ∧ w.heap.size ≤ w'.heap.size := by
  obtain ⟨i, hi, hz, hsz, hby⟩ := info_parts T.info
  obtain ⟨v', w', hr, ho, hg, _, _⟩ := run_append_own_at (P := P) w base t ty e i z size bytes T.under hi hz hsz hby T.zero T.pos v l.length (l.flatMap cells) hown ⟨g, 0, none⟩ 1 c (cells y)
    (by rw [hc.len, Nat.one_mul]) (fun j u hu => by rw [add_form, Nat.zero_add]; exact hy j u hu) (hc.one y) h63 hbytes hbase
  refine ⟨v', w', hr, ?_, (Below.refl _ _).grown hg hbase fun k hk => (hown.lt k hk).1, hg, hg.size⟩
  unfold Own
  rw [List.flatMap_append, List.length_append, List.flatMap_singleton]
  exact ho

/-- An append whose run is known. -/
theorem wpList_appendRun {P : Program} {ops : Array Oper} {rest : List Oper} {o : Oper} {a : Act} {Q : Exit → Act → World → Prop} (hgd : o.guard = none) (s x : Operand) (t : TypeId)
    (ho : o.op = .call { callee := .builtin .append, args := #[s, x], argTypes := #[t, t] }) {u v' : Value} (hs : a.eval s = v) (hx : a.eval x = u) (hrun : (Builtin.append_ #[t, t] o.type #[v, u]).run P w = .ok v' w')
    (h : wpList P ops Q rest (a.put o.dst v') w') : wpList P ops Q (o :: rest) a w := by
  refine wpList_plain hgd fun K hK => ?_
  unfold Oper.wp
  simp [execOp, ho, resolve, invoke, builtin, hs, hx, hrun, Result.andThen]
  exact hK _ _ h

theorem wpList_appendRunD {P : Program} {ops : Array Oper} {rest : List Oper} {o : Oper} {a : Act} {Q : Exit → Act → World → Prop} (d : Nat) (hd : o.dst = some d) (hgd : o.guard = none) (s x : Operand) (t : TypeId)
    (ho : o.op = .call { callee := .builtin .append, args := #[s, x], argTypes := #[t, t] }) {u v' : Value} (hs : a.eval s = v) (hx : a.eval x = u) (hrun : (Builtin.append_ #[t, t] o.type #[v, u]).run P w = .ok v' w')
    (h : wpList P ops Q rest { a with tmps := a.tmps.setIfInBounds d v' } w') : wpList P ops Q (o :: rest) a w := by
  refine wpList_appendRun hgd s x t ho hs hx hrun ?_
  rw [hd]
  exact h

/-- A box of another type is no block of a row. -/
theorem Own.ne_box {b : Nat} {cs : List Value} {t : TypeId} (h : Own cells size base e w v l) (hb : Box w b cs t) (hne : e ≠ t) : some b ≠ v.ownBlock := by
  rcases h.2 with ⟨rfl, _⟩ | ⟨g, cap, cur, rfl, _, hh, _⟩
  · simp [Value.ownBlock]
  · intro he
    have : b = g := by simpa [Value.ownBlock] using he
    subst this
    have := hb.symm.trans hh
    injection this with this
    injection this with _ ht
    exact hne ht.symm
theorem Own.kept {row : Option Nat} (h : Own cells size base e w v l) (hg : w.grownBy w' row) (hne : ∀ b, row = some b → v.ownBlock ≠ some b) : Own cells size base e w' v l := by
  refine World.ownsRow.kept h hg ?_
  cases hv : v.ownBlock with
  | none => exact Or.inl rfl
  | some g => exact Or.inr fun h => hne g h.symm (hv ▸ rfl)
/-- A store into a box of another type leaves the row. -/
theorem Own.kept_box {b : Nat} {cs : List Value} {t : TypeId} (h : Own cells size base e w v l) (hb : Box w b cs t) (hne : e ≠ t) (hg : w.grownBy w' (some b)) : Own cells size base e w' v l :=
  h.kept hg fun b' hb' h' => by
    injection hb' with hb'
    subst hb'
    exact (h.ne_box hb hne) h'.symm

/-- The layout out of a row of raw cells. -/
theorem Own.slR {β : Type} {M : Lay β} {k : List β} (h : Own cells size base e w v l) (hc : CellsOk cells size) (hs : M.size = size) (hl : l.length = k.length) (hr : ∀ (i : Nat) x y, l[i]? = some x → k[i]? = some y → M.rep w y (cells x)) :
    ∃ A c, v = .slice A k.length c ∧ k.length ≤ c ∧ Sl M w A k := by
  subst hs
  rcases h.2 with ⟨rfl, h0⟩ | ⟨g, cap, cur, rfl, hbg, hh, hcap, _⟩
  · have : k = [] := List.eq_nil_of_length_eq_zero (by omega)
    subst this
    exact ⟨none, 0, rfl, Nat.le_refl _, Sl.nil⟩
  · refine ⟨_, cap, by rw [hl], by omega, fun i y hy => ?_⟩
    have hi : i < l.length := by have := (List.getElem?_eq_some_iff.1 hy).1; omega
    have hx := List.getElem?_eq_getElem hi
    have hlt : g < w.heap.size := (Array.getElem?_eq_some_iff.1 hh).1
    refine ⟨g, 0, cells l[i], rfl, hlt, hr i _ y hx hy, fun j u hj => ?_⟩
    have hcell := World.ownsRow.cells h (g := g) rfl (i * M.size + j) u
    rw [add_form] at hcell
    rw [Nat.add_assoc]
    exact hcell (flatMap_at hc.len l i hi j u hj)
end
end Go.Proofs.YtlcdnkloijehjaaGreatDoor
