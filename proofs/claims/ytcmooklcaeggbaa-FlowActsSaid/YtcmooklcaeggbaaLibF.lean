/-
  'append(s, x...)' where s is a row of the call's own and x any slice that reads as a list. It holds no statement about the program.
-/
import Derived.Test.YtcmooklcaeggbaaLibE
import Derived.Lib.AppendZeros
namespace Go.Proofs.Ytcmooklcaeggbaa
open Go.RowKit
set_option linter.unusedVariables false

theorem flatMap_at {α : Type} {cells : α → List Value} {size : Nat} (hc : ∀ x, (cells x).length = size) : ∀ (l : List α) (q m : Nat) (hq : q < l.length), m < size → (l.flatMap cells)[q * size + m]? = (cells l[q])[m]?
  | [], q, m, hq, hm => by simp at hq
  | x :: rr, 0, m, hq, hm => by rw [List.flatMap_cons, Nat.zero_mul, Nat.zero_add, List.getElem?_append_left (by rw [hc]; exact hm)]; rfl
  | x :: rr, q + 1, m, hq, hm => by
    rw [List.flatMap_cons, List.getElem?_append_right (by rw [hc, Nat.succ_mul]; omega), hc, show (q + 1) * size + m - size = q * size + m by rw [Nat.succ_mul]; omega, flatMap_at hc rr q m (by simpa using hq) hm]
    rfl
theorem cells_of_sl {α : Type} {cells : α → List Value} {size : Nat} (hc : CellsOk cells size) (hsp : 0 < size) {w : World} {l : List α} {b off : Nat}
    (hsl : ∀ i x, l[i]? = some x → ∃ b' o', (some ⟨b, off, none⟩ : Option Addr) = some ⟨b', o', none⟩ ∧ ∀ j v, (cells x)[j]? = some v → w.cell? ⟨b', o' + i * size + j, none⟩ = some v) :
    ∀ j v, (l.flatMap cells)[j]? = some v → w.cell? ((⟨b, off, none⟩ : Addr).add j) = some v := fun j v hj => by
  have hj' : j < l.length * size := by
    have := (List.getElem?_eq_some_iff.1 hj).1
    rwa [flatMap_len hc.len] at this
  have hq : j / size < l.length := by rw [Nat.div_lt_iff_lt_mul hsp]; exact hj'
  obtain ⟨b', o', e', hcell⟩ := hsl (j / size) l[j / size] (List.getElem?_eq_getElem hq)
  simp only [Option.some.injEq, Addr.mk.injEq] at e'
  obtain ⟨rfl, rfl, _⟩ := e'
  have hdm : j / size * size + j % size = j := by rw [Nat.mul_comm]; exact Nat.div_add_mod j size
  have h5 := flatMap_at hc.len l (j / size) (j % size) hq (Nat.mod_lt _ hsp)
  rw [hdm, hj] at h5
  have h6 := hcell (j % size) v h5.symm
  rw [Nat.add_assoc, hdm] at h6
  unfold Addr.add
  split
  · rename_i hj0; rw [hj0, Nat.add_zero] at h6; exact h6
  · simpa using h6

theorem Own.shape {α : Type} {cells : α → List Value} {size base : Nat} {e : TypeId} {w : World} {v : Value} {l : List α} (h : Own cells size base e w v l) : ∃ A c, v = .slice A l.length c ∧ l.length ≤ c := by
  rcases h.2 with ⟨rfl, h0⟩ | ⟨g, cap, cur, rfl, _, _, hc, _⟩
  · have : l = [] := List.eq_nil_of_length_eq_zero h0
    subst this
    exact ⟨none, 0, rfl, Nat.le_refl _⟩
  · exact ⟨_, cap, rfl, hc⟩

theorem run_append_none {P : Program} (w : World) {t e ty : TypeId} {i : TypeInfo} (ht : P.underlying t = some (.slice e)) (hi : P.info? e = some i) (A : Option Addr) (n cap c : Nat) (h : n ≤ cap) :
    (Builtin.append_ #[t, t] ty #[.slice A n cap, .slice none 0 c]).run P w = .ok (.slice A n cap) w := by
  cases A with
  | none => simp [Builtin.append_, run_underlying ht, sizeOf, typeInfo, hi, Builtin.lenOf, Builtin.firstCells, h]
  | some a => simp [Builtin.append_, run_underlying ht, sizeOf, typeInfo, hi, Builtin.lenOf, Builtin.firstCells, h, storeCells]

/-- 'append(s, x...)'. -/
theorem wpList_appendAll {P : Program} {α : Type} {cells : α → List Value} {t e : TypeId} {size bytes : Nat} {z : Value} (T : ElemTy P t e size bytes z) (hc : CellsOk cells size)
    {ops : Array Oper} {rest : List Oper} {o : Oper} {a : Act} {Q : Exit → Act → World → Prop} {w : World} (hgd : o.guard = none) (s x : Operand)
    (ho : o.op = .call { callee := .builtin .append, args := #[s, x], argTypes := #[t, t] }) (base : Nat) (v : Value) (l : List α) (hs : a.eval s = v) (hown : Own cells size base e w v l)
    (A : Option Addr) (c : Nat) (m : List α) (hx : a.eval x = .slice A m.length c)
    (hsl : ∀ i x, m[i]? = some x → ∃ b o, A = some ⟨b, o, none⟩ ∧ ∀ j v, (cells x)[j]? = some v → w.cell? ⟨b, o + i * size + j, none⟩ = some v)
    (h63 : l.length + m.length ≤ maxLen) (hbytes : (l.length + m.length) * bytes ≤ 140737488355328) (hbase : base ≤ w.heap.size)
    (h : ∀ v' w', Own cells size base e w' v' (l ++ m) → Below base w w' → w.grownBy w' v.ownBlock → wpList P ops Q rest (a.put o.dst v') w') : wpList P ops Q (o :: rest) a w := by
  obtain ⟨i, hi, hz, hsz, hby⟩ := info_parts T.info
  cases A with
  | none =>
    have hm : m = [] := by
      cases m with
      | nil => rfl
      | cons y r => obtain ⟨b, o, e, _⟩ := hsl 0 y rfl; cases e
    subst hm
    obtain ⟨A', c', rfl, hle⟩ := hown.shape
    refine Lib.wpList_append_run w hgd s x t t ho _ _ hs hx _ w (run_append_none w T.under hi A' l.length c' c hle) ?_
    refine h _ _ (by rw [List.append_nil]; exact hown) (Below.refl _ _) ⟨rfl, rfl, rfl, Nat.le_refl _, fun _ _ _ => rfl⟩
  | some ad =>
    have hcs : ∀ j v, (m.flatMap cells)[j]? = some v → w.cell? (ad.add j) = some v := by
      cases m with
      | nil => intro j v hj; simp at hj
      | cons y r =>
        obtain ⟨b, o, e, _⟩ := hsl 0 y rfl
        obtain rfl := Option.some.inj e
        exact cells_of_sl hc T.pos hsl
    refine wpList_append_own_at w hgd s x t ho base e i z size bytes T.under hi hz hsz hby T.zero T.pos v l.length (l.flatMap cells) hs hown ad m.length c (m.flatMap cells) hx
      (flatMap_len hc.len m) hcs (fun u hu => by
        obtain ⟨y, _, hy⟩ := List.mem_flatMap.1 hu
        exact hc.one y u hy) h63 hbytes hbase ?_
    intro v' w' hown' hg _ _
    refine h v' w' ?_ ((Below.refl _ _).grown hg hbase fun k hk => (hown.lt k hk).1) hg
    unfold Own
    rw [List.flatMap_append, List.length_append]
    exact hown'
end Go.Proofs.Ytcmooklcaeggbaa
