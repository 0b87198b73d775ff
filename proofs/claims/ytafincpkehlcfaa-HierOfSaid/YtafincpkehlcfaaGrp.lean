/-
  Maps from numbers to lists of numbers, made by the call: 'm[k] = append(m[k], v)'. It holds no statement about the program.
-/
import Derived.Test.YtafincpkehlcfaaMapS
import Derived.Maps.OwnRows
import Derived.Maps.GroupsBeside
namespace Go.Proofs.Ytafincpkehlcfaa
open Go.RowKit Go.ChangeShapes Go.WideElems
set_option linter.unusedVariables false

/-- Block b is a map of at most n entries; at key x lies a slice that owns the numbers f x. -/
def GrpIs (P : Program) (k e : TypeId) (w : World) (base b n : Nat) (f : Int → List Int) : Prop :=
  ∃ D : DataW Unit, Maps.IsMap D ∧ w.ownsGroups P k base e .i64 b n D ∧ ∀ x, okInt x → (D.atKey (.int .i64 x) .nil = .nil ∧ f x = []) ∨ D.atKey (.int .i64 x) .nil = .slice (lits .i64 (f x)) []

section
variable {P : Program} {t k E e : TypeId} {w w' : World} {base b n : Nat} {f : Int → List Int}
theorem GrpIs.made (w : World) {b : Nat} (hb : w.heap.size = b) : GrpIs P k e (w.alloc (.map #[] 0)) (b + 1) b 0 (fun _ => []) := by
  subst hb
  exact ⟨.map [], Maps.isMap_empty, World.ownsGroups_made w P k e .i64, fun x _ => Or.inl ⟨rfl, rfl⟩⟩
theorem GrpIs.lt (h : GrpIs P k e w base b n f) : b < w.heap.size ∧ b < base := by
  obtain ⟨D, _, ⟨es, clock, hb, _, _, _, hbb, _⟩, _⟩ := h
  exact ⟨(Array.getElem?_eq_some_iff.1 hb).1, hbb⟩
theorem GrpIs.mono (h : GrpIs P k e w base b n f) (hb : Below w.heap.size w w') : GrpIs P k e w' base b n f := by
  obtain ⟨D, h1, h2, h3⟩ := h
  exact ⟨D, h1, h2.kept (row := none) ⟨hb.os, hb.tape, hb.output, hb.size, fun k hk _ => hb.block k hk⟩ (by simp) (fun es clock _ x _ => by cases x.val.ownBlock <;> simp), h3⟩
theorem lits_inj {a b : List Int} (h : lits (H := Unit) .i64 a = lits .i64 b) : a = b := by
  unfold lits at h
  induction a generalizing b with
  | nil => cases b with
    | nil => rfl
    | cons y r => simp at h
  | cons x q ih => cases b with
    | nil => simp at h
    | cons y r =>
      simp only [List.map_cons, List.cons.injEq] at h
      obtain ⟨h1, h2⟩ := h
      injection h1 with h1
      injection h1 with _ h1
      rw [h1, ih h2]
theorem GrpIs.at (h : GrpIs P k e w base b n f) (K : Maps.Keyed P k) (hk : P.underlying k = some (.int .i64)) (ht : P.underlying t = some (.map k E)) (hz : ∀ w, (zeroValue E).run P w = .ok (.slice none 0 0) w) (hn : n < maxLen) {x : Int} (hx : okInt x) :
    ∃ v, (Instr.lookup t (.map (some b)) (.int .i64 x) false).run P w = .ok v w ∧ w.ownsInts base e .i64 v (f x) ∧ (f x).length ≤ n ∧
      ∀ (w1 : World) (v' : Value) (y : Int), okInt y → w.grownBy w1 v.ownBlock → w1.ownsInts base e .i64 v' (f x ++ [y]) → (v'.ownBlock = v.ownBlock ∨ ∃ g, v'.ownBlock = some g ∧ w.heap.size ≤ g) →
        ∃ w2, (Instr.mapUpdate t (.map (some b)) (.int .i64 x) v').run P w1 = .ok () w2 ∧ GrpIs P k e w2 base b (n + 1) (fun z => if z = x then f x ++ [y] else f z) ∧ w1.grownBy w2 (some b) := by
  obtain ⟨D, h1, h2, h3⟩ := h
  have hkey := Maps.keyOf_int_mk (P := P) hk hx
  obtain ⟨v, zs, hrun, hat, hoi, hzl, hback⟩ := h2.at K ht (hz w) hn hkey
  have hzs : zs = f x := by
    rcases h3 x hx with ⟨e1, e2⟩ | e1
    · rcases hoi.datum (H := Unit) with ⟨e3, e4⟩ | e3
      · rw [e4, e2]
      · rw [hat, e3] at e1; cases e1
    · rcases hoi.datum (H := Unit) with ⟨e3, e4⟩ | e3
      · rw [hat, e3] at e1; cases e1
      · rw [hat, e3] at e1
        injection e1 with e1
        exact lits_inj e1
  subst hzs
  refine ⟨v, hrun, hoi, hzl, fun w1 v' y hy hg ho hloc => ?_⟩
  obtain ⟨w2, hr2, ho2, hg2⟩ := hback w1 v' (f x ++ [y]) hg ho (by simp; omega) hloc
  refine ⟨w2, hr2, ⟨_, h1.put _ _, ho2, fun z hz' => ?_⟩, hg2⟩
  by_cases ez : z = x
  · subst ez
    right
    rw [Maps.atKey_put_same h1 (K.key hkey), ho.datum_pos (by simp)]
    simp
  · have hne : Lit.int .i64 z ≠ Lit.int .i64 x := fun h => ez (by injection h)
    rw [Maps.atKey_put_other hne]
    simp only [if_neg ez]
    exact h3 z hz'
/-- A look-up in a later world hands back what lay there before. -/
theorem GrpIs.lookLater (h : GrpIs P k e w base b n f) (K : Maps.Keyed P k) (hk : P.underlying k = some (.int .i64)) (ht : P.underlying t = some (.map k E)) (hz : ∀ w, (zeroValue E).run P w = .ok (.slice none 0 0) w) (hb : Below w.heap.size w w') {x : Int} (hx : okInt x) :
    ∃ v, (Instr.lookup t (.map (some b)) (.int .i64 x) false).run P w' = .ok v w' ∧ w.ownsInts base e .i64 v (f x) := by
  have hkey := Maps.keyOf_int_mk (P := P) hk hx
  obtain ⟨D, h1, ⟨es, clock, hh, F, hs, rfl, hbb, hlen, hap⟩, h3⟩ := h
  have hblt : b < w.heap.size := (Array.getElem?_eq_some_iff.1 hh).1
  have hg : w.grownBy w' none := ⟨hb.os, hb.tape, hb.output, hb.size, fun k hk _ => hb.block k hk⟩
  have hst : ∀ x ∈ es.toList, ∀ z, rowElem (H := Unit) w base e .i64 x.val = some z → rowElem w' base e .i64 x.val = some z := fun x hx z hz => by
    obtain ⟨zs, ho, rfl⟩ := rowElem_inv hz
    exact rowElem_mk (ho.kept hg (by cases x.val.ownBlock <;> simp))
  obtain ⟨F1, hmap, _⟩ := F.stay hst
  have hsame : ∀ {v : Value} {zs : List Int}, w.ownsInts base e .i64 v zs → (DataW.map ((es.toList.map (rg P k (rowElem (H := Unit) w base e .i64))).foldr DataW.insert [])).atKey (.int .i64 x) .nil = rowDatum .i64 v zs → zs = f x := by
    intro v zs ho hat
    rcases h3 x hx with ⟨e1, e2⟩ | e1
    · rcases ho.datum (H := Unit) with ⟨e3, e4⟩ | e3
      · rw [e4, e2]
      · rw [hat, e3] at e1; cases e1
    · rcases ho.datum (H := Unit) with ⟨e3, e4⟩ | e3
      · rw [hat, e3] at e1; cases e1
      · rw [hat, e3] at e1
        injection e1 with e1
        exact lits_inj e1
  rcases Maps.fit_look false K ht (hz w') ((hb.block b hblt).trans hh) F1 hkey with ⟨hrun, _, hat⟩ | ⟨e0, y, hm0, h3', hrun, hR, hat, _⟩
  · rw [hmap] at hat
    have ho := World.ownsInts_nil w base e .i64
    exact ⟨_, hrun, by rw [← hsame ho (hat _)]; exact ho⟩
  · rw [hmap] at hat
    obtain ⟨y0, hy0⟩ := F.reads e0 hm0
    obtain ⟨z, hz0, _⟩ := rd_val hy0
    obtain ⟨zs, ho, rfl⟩ := rowElem_inv hz0
    have h4 := hst e0 hm0 _ hz0
    rw [hR] at h4
    have h5 := Option.some.inj h4
    subst h5
    exact ⟨_, hrun, by rw [← hsame ho (hat _)]; exact ho⟩
end
/-- A row is no map. -/
theorem own_ne_map {α β γ : Type} {cells : α → List Value} {size base : Nat} {e : TypeId} {w : World} {v : Value} {l : List α} (h : Own cells size base e w v l)
    {P : Program} {t k e' : TypeId} {κ : β → Value} {okk : β → Prop} {lit : β → Lit} {ν : γ → Value} {okv : γ → Prop} {dat : γ → DataW Unit} {zero : γ} {T : MapTy P t k e' κ okk lit ν okv dat zero} {b n : Nat} {f : β → Option γ} (hm : MapIs T w b n f) :
    v.ownBlock = none ∨ v.ownBlock ≠ some b := by
  rcases h.2 with ⟨rfl, _⟩ | ⟨g, cap, cur, rfl, h1, h2, _⟩
  · exact Or.inl rfl
  · refine Or.inr fun h3 => ?_
    simp [Value.ownBlock] at h3
    subst h3
    obtain ⟨D, _, ⟨es, clock, hh, _⟩, _⟩ := hm
    rw [h2] at hh
    cases hh
theorem own_ne_map' {α β γ : Type} {cells : α → List Value} {size base : Nat} {e : TypeId} {w : World} {v : Value} {l : List α} (h : Own cells size base e w v l)
    {P : Program} {t k e' : TypeId} {κ : β → Value} {okk : β → Prop} {lit : β → Lit} {ν : γ → Value} {okv : γ → Prop} {dat : γ → DataW Unit} {zero : γ} {T : MapTy P t k e' κ okk lit ν okv dat zero} {b n : Nat} {f : β → Option γ} (hm : MapIs T w b n f) :
    some b ≠ v.ownBlock := by
  rcases own_ne_map h hm with h1 | h1
  · rw [h1]; simp
  · exact fun h2 => h1 h2.symm
theorem ownsInts_own {w : World} {base : Nat} {e : TypeId} {v : Value} {zs : List Int} (h : w.ownsInts base e .i64 v zs) : Own cellsInt 1 base e w v zs := by
  have := h.1
  unfold Own
  rw [show zs.flatMap cellsInt = zs.map (Value.int .i64) from flatMap_one (c := fun x => Value.int .i64 x) zs]
  exact this
theorem own_ownsInts {w : World} {base : Nat} {e : TypeId} {v : Value} {zs : List Int} (h : Own cellsInt 1 base e w v zs) (hz : ∀ z ∈ zs, okInt z) : w.ownsInts base e .i64 v zs := by
  unfold Own at h
  rw [show zs.flatMap cellsInt = zs.map (Value.int .i64) from flatMap_one (c := fun x => Value.int .i64 x) zs] at h
  exact ⟨h, hz⟩

/-- 'append(s, y)': it also tells where the new slice lies. -/
theorem wpList_pushL {P : Program} {α : Type} {cells : α → List Value} {t e : TypeId} {size bytes : Nat} {z : Value} (T : ElemTy P t e size bytes z) (hc : CellsOk cells size)
    {ops : Array Oper} {rest : List Oper} {o : Oper} {a : Act} {Q : Exit → Act → World → Prop} {w : World} (hgd : o.guard = none) (s x : Operand)
    (ho : o.op = .call { callee := .builtin .append, args := #[s, x], argTypes := #[t, t] }) (base : Nat) (v : Value) (l : List α) (hs : a.eval s = v) (hown : Own cells size base e w v l)
    (y : α) (g c : Nat) (hx : a.eval x = .slice (some ⟨g, 0, none⟩) 1 c) (hy : ∀ j u, (cells y)[j]? = some u → w.cell? ⟨g, j, none⟩ = some u)
    (h63 : l.length + 1 ≤ maxLen) (hbytes : (l.length + 1) * bytes ≤ 140737488355328) (hbase : base ≤ w.heap.size)
    (h : ∀ v' w', Own cells size base e w' v' (l ++ [y]) → w.grownBy w' v.ownBlock → (v'.ownBlock = v.ownBlock ∨ ∃ g, v'.ownBlock = some g ∧ w.heap.size ≤ g) → wpList P ops Q rest (a.put o.dst v') w') : wpList P ops Q (o :: rest) a w := by
  obtain ⟨i, hi, hz, hsz, hby⟩ := info_parts T.info
  refine wpList_append_own_at w hgd s x t ho base e i z size bytes T.under hi hz hsz hby T.zero T.pos v l.length (l.flatMap cells) hs hown ⟨g, 0, none⟩ 1 c (cells y) hx
    (by rw [hc.len, Nat.one_mul]) (fun j u hu => by
      have := hy j u hu
      unfold Addr.add
      split
      · rename_i h0; rw [h0] at this; exact this
      · simpa using this) (hc.one y) h63 hbytes hbase ?_
  intro v' w' hown' hg _ hloc
  refine h v' w' ?_ hg (hloc.imp id fun h => ⟨_, h, by simp⟩)
  unfold Own
  rw [List.flatMap_append, List.length_append, List.flatMap_singleton]
  exact hown'
/-- A store whose run is known. -/
theorem wpList_mapRun {P : Program} {t : TypeId} {w w2 : World} {ops : Array Oper} {rest : List Oper} {o : Oper} {a : Act} {Q : Exit → Act → World → Prop} (hg : o.guard = none) (m x v : Operand) (hop : o.op = Op.mapUpdate t m x v)
    (vm vx vv : Value) (hm : a.eval m = vm) (hx : a.eval x = vx) (hv : a.eval v = vv) (hrun : (Instr.mapUpdate t vm vx vv).run P w = .ok () w2) (hK : wpList P ops Q rest (a.put o.dst undef) w2) : wpList P ops Q (o :: rest) a w := by
  refine wpList_plain hg fun K' hK' => ?_
  unfold Oper.wp
  simp [execOp, hop, hm, hx, hv, hrun, Result.andThen]
  exact hK' _ _ hK
end Go.Proofs.Ytafincpkehlcfaa
