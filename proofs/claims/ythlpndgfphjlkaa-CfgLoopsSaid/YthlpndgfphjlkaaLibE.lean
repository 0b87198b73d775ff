/-
  The builtins copy and clear on slices that the call owns, for elements of any number of cells. It holds no statement about the program.
-/
import Derived.Test.YthlpndgfphjlkaaLib
import Derived.Laws.CopyOwn
namespace Go.Proofs.Ythlpndgfphjlkaa
open Go.RowKit
set_option linter.unusedVariables false

theorem run_copy_rowK {P : Program} (w : World) (dT sT ty elem : TypeId) (g o dLen dCap : Nat) (a : Addr) (sLen sCap k : Nat) (cur : Array Value) (t : TypeId) (cs : List Value)
    (hu : P.underlying dT = some (.slice elem)) (hs : (P.info? elem).map (·.size) = some k)
    (hg : w.heap[g]? = some (.cells cur t (0, 0))) (hn : cs.length = Nat.min sLen dLen * k)
    (hsrc : ∀ j v, cs[j]? = some v → w.cell? (a.add j) = some v) (hfit : o + cs.length ≤ cur.size) (h1 : ∀ v ∈ cs, v.oneCell' = true) :
    (Builtin.copy_ #[dT, sT] ty #[.slice (some ⟨g, o, none⟩) dLen dCap, .slice (some a) sLen sCap]).run P w =
      .ok (goInt (Nat.min sLen dLen)) (w.setRow g (cur.toList.take o ++ cs ++ cur.toList.drop (o + cs.length)).toArray) := by
  have hl := run_loadCells_list (P := P) w a cs hsrc
  have hst := run_storeCells_at P g o t cs 0 cur w hg (by simpa using hfit) h1
  cases hq : P.info? elem with
  | none => simp [hq] at hs
  | some i =>
    have hi : i.size = k := by simpa [hq] using hs
    simp only [Builtin.copy_]
    simp [run_underlying hu, Builtin.lenOf, Builtin.firstCells, sizeOf, typeInfo, hq, hi, ← hn, hl, hst]

theorem Own.whole {α : Type} {cells : α → List Value} {size base : Nat} {e : TypeId} {w : World} {g n cap : Nat} {l : List α} (h : Own cells size base e w (.slice (some ⟨g, 0, none⟩) n cap) l) :
    base ≤ g ∧ l.length = n ∧ ∃ cur : Array Value, w.heap[g]? = some (.cells cur e (0, 0)) ∧ n ≤ cap ∧ cap ≤ maxLen ∧ cur.size = cap * size ∧ cur.toList.take (n * size) = l.flatMap cells := by
  rcases h.2 with ⟨h0, _⟩ | ⟨g', cap', cur, hv, hb, hg, h1, h2, h3, h4⟩
  · cases h0
  · simp only [Value.slice.injEq, Option.some.injEq, Addr.mk.injEq] at hv
    obtain ⟨⟨rfl, -, -⟩, hn, rfl⟩ := hv
    refine ⟨hb, hn.symm, cur, hg, by omega, h2, h3, ?_⟩
    rw [hn]
    exact h4

theorem flatMap_len {α : Type} {cells : α → List Value} {size : Nat} (hc : ∀ x, (cells x).length = size) (l : List α) : (l.flatMap cells).length = l.length * size := by
  induction l with
  | nil => simp
  | cons x r ih => rw [List.flatMap_cons, List.length_append, ih, hc, List.length_cons, Nat.succ_mul]; omega

/-- 'copy(d, s)' where d is a row of the call's own and s holds as many elements. -/
theorem wpList_copyOwn {P : Program} {α : Type} {cells : α → List Value} {t e : TypeId} {size bytes : Nat} {z : Value} (T : ElemTy P t e size bytes z) (hc : CellsOk cells size)
    {ops : Array Oper} {rest : List Oper} {o : Oper} {a : Act} {Q : Exit → Act → World → Prop} {w : World} (hgd : o.guard = none) (d s : Operand) (sT : TypeId)
    (ho : o.op = .call { callee := .builtin .copy, args := #[d, s], argTypes := #[t, sT] }) (base g n cap : Nat) (r : List α) (hd : a.eval d = .slice (some ⟨g, 0, none⟩) n cap) (hown : Own cells size base e w (.slice (some ⟨g, 0, none⟩) n cap) r)
    (A : Option Addr) (sc : Nat) (l : List α) (hs : a.eval s = .slice A n sc) (hl : l.length = n)
    (hsl : ∀ i x, l[i]? = some x → ∃ b o, A = some ⟨b, o, none⟩ ∧ ∀ j v, (cells x)[j]? = some v → w.cell? ⟨b, o + i * size + j, none⟩ = some v)
    (h : ∀ w', Own cells size base e w' (.slice (some ⟨g, 0, none⟩) n cap) l → Below base w w' → wpList P ops Q rest (a.put o.dst (.int .i64 n)) w') : wpList P ops Q (o :: rest) a w := by
  obtain ⟨i, hi, hz, hsz, hby⟩ := info_parts T.info
  obtain ⟨hbg, hrn, cur, hg, h1, h2, h3, h4⟩ := hown.whole
  refine wpList_plain hgd fun K hK => ?_
  by_cases h0 : n = 0
  · subst h0
    have hrun : (Builtin.copy_ #[t, sT] o.type #[.slice (some ⟨g, 0, none⟩) 0 cap, .slice A 0 sc]).run P w = .ok (.int .i64 0) w := by
      simp only [Builtin.copy_]
      cases A with
      | none => simp [run_underlying T.under, Builtin.lenOf, Builtin.firstCells, sizeOf, typeInfo, hi, storeCells, goInt]
      | some ad =>
        have hld := run_loadCells_list (P := P) w ad [] (fun j v hj => by simp at hj)
        simp only [List.length_nil] at hld
        simp [run_underlying T.under, Builtin.lenOf, Builtin.firstCells, sizeOf, typeInfo, hi, storeCells, goInt, hld]
    unfold Oper.wp
    simp [execOp, ho, resolve, invoke, builtin, hd, hs, hrun, Result.andThen]
    have hl0 : l = [] := List.eq_nil_of_length_eq_zero hl
    have hr0 : r = [] := List.eq_nil_of_length_eq_zero hrn
    subst hl0 hr0
    exact hK _ _ (h w hown (Below.refl _ _))
  · obtain ⟨b, off, rfl, _⟩ := hsl 0 l[0] (List.getElem?_eq_getElem (by omega))
    have hcs : (l.flatMap cells).length = n * size := by rw [flatMap_len hc.len, hl]
    have hle : n * size ≤ cap * size := Nat.mul_le_mul_right _ h1
    have hrun := run_copy_rowK (P := P) w t sT o.type e g 0 n cap ⟨b, off, none⟩ n sc size cur e (l.flatMap cells) T.under (by rw [hi]; simp [hsz]) hg (by rw [hcs, show Nat.min n n = n from Nat.min_self n]) (fun j v hj => by
        -- the cell of an element
        have hsp := T.pos
        have hj' : j < l.length * size := by
          have := (List.getElem?_eq_some_iff.1 hj).1
          rwa [flatMap_len hc.len] at this
        have hq : j / size < l.length := by rw [Nat.div_lt_iff_lt_mul hsp]; exact hj'
        obtain ⟨b', o', e', hcell⟩ := hsl (j / size) l[j / size] (List.getElem?_eq_getElem hq)
        simp only [Option.some.injEq, Addr.mk.injEq] at e'
        obtain ⟨rfl, rfl, _⟩ := e'
        have hat : ∀ (l : List α) (q m : Nat) (hq : q < l.length), m < size → (l.flatMap cells)[q * size + m]? = (cells l[q])[m]? := by
          intro l
          induction l with
          | nil => intro q m hq; simp at hq
          | cons x rr ih =>
            intro q m hq hm
            cases q with
            | zero => rw [List.flatMap_cons, Nat.zero_mul, Nat.zero_add, List.getElem?_append_left (by rw [hc.len]; exact hm)]; rfl
            | succ q =>
              rw [List.flatMap_cons, List.getElem?_append_right (by rw [hc.len, Nat.succ_mul]; omega), hc.len, show (q + 1) * size + m - size = q * size + m by rw [Nat.succ_mul]; omega, ih q m (by simpa using hq) hm]
              rfl
        have hdm : j / size * size + j % size = j := by rw [Nat.mul_comm]; exact Nat.div_add_mod j size
        have h5 := hat l (j / size) (j % size) hq (Nat.mod_lt _ hsp)
        rw [hdm, hj] at h5
        have h6 := hcell (j % size) v h5.symm
        rw [Nat.add_assoc, hdm] at h6
        unfold Addr.add
        split
        · rename_i hj0; rw [hj0, Nat.add_zero] at h6; exact h6
        · simpa using h6) (by rw [hcs]; omega) (fun v hv => by
          obtain ⟨x, _, hx⟩ := List.mem_flatMap.1 hv
          exact hc.one x v hx)
    rw [show Nat.min n n = n from Nat.min_self n] at hrun
    generalize hE : l.flatMap cells = cs at *
    unfold Oper.wp
    simp [execOp, ho, resolve, invoke, builtin, hd, hs, hrun, Result.andThen]
    refine hK _ _ (h _ ?_ (below_setRow (Below.refl _ _) hbg _))
    refine ⟨by rw [flatMap_len hc.len], Or.inr ⟨g, cap, _, by rw [hl], hbg, setRow_heap w g _ _ e _ hg, by omega, h2, ?_, ?_⟩⟩
    · simp [hcs, h3]; omega
    · rw [hE, hl]
      simp only [List.take_append_of_le_length (Nat.le_of_eq hcs.symm)]
      exact List.take_of_length_le (Nat.le_of_eq hcs)

/-- 'clear(s[k:])' where s is a row of the call's own: the first k elements stay. -/
theorem Own.clear_tail {P : Program} {α : Type} {cells : α → List Value} {t e : TypeId} {size bytes base : Nat} {z : Value} (T : ElemTy P t e size bytes z) (hc : CellsOk cells size) (hz1 : ∀ v ∈ z.cells.toList, v.oneCell' = true) (hzero : ∀ w, (zeroValue e).run P w = .ok z w)
    {w : World} {g n cap : Nat} {l : List α} (h : Own cells size base e w (.slice (some ⟨g, 0, none⟩) n cap) l) {k : Nat} (hk : k < n) :
    ∃ w', (∀ ty c, (Builtin.clear_ #[t] ty #[.slice (some ⟨g, k * size, none⟩) (n - k) c]).run P w = .ok (.tuple #[]) w') ∧ Own cells size base e w' (.slice (some ⟨g, 0, none⟩) k cap) (l.take k) ∧ Below base w w' := by
  obtain ⟨hbg, hrn, cur, hg, h1, h2, h3, h4⟩ := h.whole
  have hlen : (Builtin.zeroCells z.cells (n - k)).toList.length = (n - k) * size := by simp [Builtin.zeroCells, T.zero]
  have hsum : k * size + (n - k) * size = n * size := by rw [← Nat.add_mul]; congr 1; omega
  have hle : n * size ≤ cap * size := Nat.mul_le_mul_right _ h1
  have hst := run_storeCells_at P g (k * size) e (Builtin.zeroCells z.cells (n - k)).toList 0 cur w hg (by rw [hlen]; omega) (fun v hv => by
    simp only [Builtin.zeroCells, Array.toList_map, List.mem_map] at hv
    obtain ⟨i, hi, rfl⟩ := hv
    have hp : 0 < z.cells.size := by rw [T.zero]; exact T.pos
    rw [getElem!_pos z.cells (i % z.cells.size) (Nat.mod_lt _ hp)]
    exact hz1 _ (by simp))
  simp only [Nat.add_zero] at hst
  generalize hzs : (Builtin.zeroCells z.cells (n - k)).toList = zs at *
  refine ⟨w.setRow g (cur.toList.take (k * size) ++ zs ++ cur.toList.drop (k * size + zs.length)).toArray, fun ty c => ?_, ?_, below_setRow (Below.refl _ _) hbg _⟩
  · obtain ⟨m', hm'⟩ : ∃ m', n - k = m' + 1 := ⟨n - k - 1, by omega⟩
    rw [hm'] at hzs ⊢
    simp [Builtin.clear_, run_underlying T.under, hzero, hzs, hst]
  · have hkl : (l.take k).length = k := by rw [List.length_take]; omega
    refine ⟨by rw [flatMap_len hc.len], Or.inr ⟨g, cap, _, by rw [hkl], hbg, setRow_heap w g _ _ e _ hg, by omega, h2, ?_, ?_⟩⟩
    · simp only [List.size_toArray, List.length_append, List.length_take, List.length_drop, Array.length_toList, hlen, h3]
      rw [Nat.min_eq_left (by omega)]
      omega
    · rw [hkl]
      have hkc : k * size ≤ cur.toList.length := by rw [Array.length_toList, h3]; omega
      simp only [List.append_assoc]
      rw [List.take_append_of_le_length (by rw [List.length_take]; omega), List.take_take, Nat.min_self]
      have h5 : cur.toList.take (k * size) = (cur.toList.take (n * size)).take (k * size) := by rw [List.take_take, Nat.min_eq_left (by omega)]
      rw [h5, h4]
      have : ∀ (l : List α) (k : Nat), (l.flatMap cells).take (k * size) = (l.take k).flatMap cells := by
        intro l
        induction l with
        | nil => intro k; simp
        | cons x rr ih =>
          intro k
          cases k with
          | zero => simp
          | succ k =>
            rw [List.flatMap_cons, List.take_succ_cons, List.flatMap_cons, List.take_append, hc.len, show (k + 1) * size - size = k * size by rw [Nat.succ_mul]; omega, ih k, List.take_of_length_le (by rw [hc.len, Nat.succ_mul]; omega)]
      exact this l k

end Go.Proofs.Ythlpndgfphjlkaa
