/-
  The lists of the predecessors, as they grow: plain, and in memory.
-/
import Derived.Test.YthlpndgfphjlkaaMgDom
import Derived.Test.YthlpndgfphjlkaaMgGra
namespace Go.Proofs.Ythlpndgfphjlkaa
open Go.RowKit
set_option linter.unusedVariables false

/-- The predecessors of a node, in the order of the edges. -/
def predL (E : List (Int × Int)) (v : Nat) : List Nat := (E.filter fun p => p.2 == (v : Int)).map fun p => p.1.toNat
def predsOf (E : List (Int × Int)) (n : Nat) : List (List Nat) := (List.range n).map (predL E)
theorem predsOf_nil (n : Nat) : predsOf [] n = List.replicate n [] := by
  unfold predsOf
  apply List.ext_getElem
  · simp
  · intro i h1 h2; simp [predL]
theorem predsOf_len (E : List (Int × Int)) (n : Nat) : (predsOf E n).length = n := by simp [predsOf]
theorem predsOf_at (E : List (Int × Int)) (n : Nat) {v : Nat} (h : v < (predsOf E n).length) : (predsOf E n)[v] = predL E v := by simp [predsOf]
theorem predsOf_snoc (E : List (Int × Int)) (n f t : Nat) (ht : t < n) : predsOf (E ++ [((f : Int), (t : Int))]) n = (predsOf E n).set t (predL E t ++ [f]) := by
  apply List.ext_getElem
  · simp [predsOf]
  · intro i h1 h2
    rw [List.getElem_set]
    simp only [predsOf, List.getElem_map, List.getElem_range, predL, List.filter_append, List.map_append]
    by_cases e : t = i
    · subst e; simp
    · rw [if_neg e]
      have : ((t : Int) == (i : Int)) = false := by simp; omega
      simp [List.filter, this]
theorem mem_predL {E : List (Int × Int)} {n : Nat} (hE : ∀ p ∈ E, inG n p) {v f : Nat} : f ∈ predL E v ↔ ((f : Int), (v : Int)) ∈ E := by
  unfold predL
  rw [List.mem_map]
  constructor
  · rintro ⟨p, hp, rfl⟩
    rw [List.mem_filter] at hp
    have h1 := (hE p hp.1).1
    have h2 : p.2 = (v : Int) := by simpa using hp.2
    rw [Int.toNat_of_nonneg h1, ← h2]
    exact hp.1
  · intro h
    exact ⟨_, List.mem_filter.2 ⟨h, by simp⟩, by simp⟩
theorem predL_len (E : List (Int × Int)) (v : Nat) : (predL E v).length ≤ E.length := by
  unfold predL; rw [List.length_map]; exact List.length_filter_le _ _

/-- The lists in memory: a row of slices, each with a row of its own. -/
structure PredI (base b2 rp n : Nat) (preds : List (List Nat)) (vs : List Value) (W : World) : Prop where
  pl : preds.length = n
  vl : vs.length = n
  row : Own (fun v : Value => [v]) 1 base 38 W (.slice (some ⟨rp, 0, none⟩) n n) vs
  own : ∀ i (h1 : i < vs.length) (h2 : i < preds.length), Own cellsInt 1 b2 3 W vs[i] (preds[i].map fun (x : Nat) => (x : Int))
  apart : ∀ i j (hi : i < vs.length) (hj : j < vs.length), i ≠ j → ∀ b, vs[i].ownBlock = some b → vs[j].ownBlock ≠ some b
  sz : b2 ≤ W.heap.size
  bb : base ≤ b2
section
variable {base b2 rp n : Nat} {preds : List (List Nat)} {vs : List Value} {W W' : World}
theorem PredI.kept {row : Option Nat} (h : PredI base b2 rp n preds vs W) (hg : W.grownBy W' row) (h1 : ∀ b, row = some b → b ≠ rp) (h2 : ∀ b, row = some b → b < b2 ∨ ∃ cs t fz, W.heap[b]? = some (.cells cs t fz) ∧ 3 ≠ t) : PredI base b2 rp n preds vs W' := by
  refine ⟨h.pl, h.vl, h.row.kept hg (fun b hb e => h1 b hb (by simpa [Value.ownBlock] using e.symm)), fun i k1 k2 => (h.own i k1 k2).kept hg (fun b hb e => ?_), h.apart, Nat.le_trans h.sz hg.size, h.bb⟩
  rcases h2 b hb with hlt | ⟨cs, t, fz, hc, ht⟩
  · have := (World.ownsRow.lt (h.own i k1 k2) b e).1; omega
  · rcases (h.own i k1 k2).2 with ⟨hv, _⟩ | ⟨g, cap, cur, hv, _, hh, _⟩
    · rw [hv] at e; cases e
    · rw [hv] at e
      obtain rfl : g = b := by simpa [Value.ownBlock] using e
      rw [hh] at hc
      injection hc with hc
      injection hc with _ hc
      exact ht hc
theorem PredI.mono (h : PredI base b2 rp n preds vs W) (hb : Below W.heap.size W W') : PredI base b2 rp n preds vs W' :=
  h.kept (row := none) ⟨hb.os, hb.tape, hb.output, hb.size, fun k hk _ => hb.block k hk⟩ (fun b e => by cases e) (fun b e => by cases e)
/-- 'preds[t] = append(preds[t], f)'. -/
theorem PredI.push (h : PredI base b2 rp n preds vs W) (t f : Nat) (h1 : t < vs.length) (h2 : t < preds.length) (hl : preds[t].length ≤ 100000) (g0 : Nat) (hx : W.cell? ⟨g0, 0, none⟩ = some (.int .i64 (f : Nat))) :
    ∃ A m c v' w', vs[t] = .slice A m c ∧ (Builtin.append_ #[38, 38] 38 #[.slice A m c, .slice (some ⟨g0, 0, none⟩) 1 1]).run Try.prog W = .ok v' w' ∧ (∃ B q d, v' = .slice B q d) ∧ W.grownBy w' vs[t].ownBlock ∧ (∀ b, vs[t].ownBlock = some b → b2 ≤ b) ∧
      rp < w'.heap.size ∧ w'.frozen? ⟨rp, t, none⟩ = false ∧ w'.cell? ⟨rp, t, none⟩ = some vs[t] ∧ PredI base b2 rp n (preds.set t (preds[t] ++ [f])) (vs.set t v') (w'.setCell ⟨rp, t, none⟩ v') := by
  obtain ⟨v', w', hr, ho, hg, hat⟩ := run_pushAt intTy cellsInt_ok 38 (h.own t h1 h2) (f : Int) g0 1 (fun j u hu => by
    match j, hu with
    | 0, hu => simp [cellsInt] at hu; subst hu; exact hx) (by rw [List.length_map]; unfold maxLen; omega) (by rw [List.length_map]; omega) h.sz
  obtain ⟨A, m, c, hv⟩ := (h.own t h1 h2).isSl
  have hrow' := h.row.kept_other (h.own t h1 h2) (by decide) hg
  have hgs := grown_set w' rp t v'
  have hrl := hrow'.ge1.2
  refine ⟨A, m, c, v', w', hv, by rw [← hv]; exact hr, ho.isSl, hg, fun b hb => (World.ownsRow.lt (h.own t h1 h2) b hb).1, hrl, hrow'.free1 h.vl t, hrow'.at1 h.vl h1, ⟨by rw [List.length_set]; exact h.pl, by rw [List.length_set]; exact h.vl, hrow'.set1 h.vl t v', fun i k1 k2 => ?_, fun i j hi hj hij b hb => ?_, ?_, h.bb⟩⟩
  · rw [List.length_set] at k1 k2
    rw [List.getElem_set, List.getElem_set]
    by_cases e : t = i
    · subst e
      rw [if_pos rfl, if_pos rfl, List.map_append]
      exact ho.kept_other hrow' (by decide) hgs
    · rw [if_neg e, if_neg e]
      refine Own.kept_other ((h.own i k1 k2).kept hg (fun b hb hb2 => h.apart t i h1 k1 e b hb hb2)) hrow' (by decide) hgs
  · rw [List.length_set] at hi hj
    rw [List.getElem_set] at hb ⊢
    have hold : ∀ k (hk : k < vs.length) b, vs[k].ownBlock = some b → b < W.heap.size := fun k hk b hb => (World.ownsRow.lt (h.own k hk (by rw [h.pl, ← h.vl]; exact hk)) b hb).2
    by_cases e : t = i
    · subst e
      rw [if_pos rfl] at hb
      rw [if_neg hij]
      rcases hat with hat | hat
      · exact h.apart t j h1 hj hij b (hat ▸ hb)
      · intro e2
        have := hold j hj b e2
        rw [hb] at hat
        injection hat with hat
        omega
    · rw [if_neg e] at hb
      by_cases e2 : t = j
      · subst e2
        rw [if_pos rfl]
        rcases hat with hat | hat
        · rw [hat]; exact h.apart i t hi h1 hij b hb
        · intro e3
          have := hold i hi b hb
          rw [e3] at hat
          injection hat with hat
          omega
      · rw [if_neg e2]
        exact h.apart i j hi hj hij b hb
  · have := h.sz; have := hg.size; have := hgs.size; omega
end
end Go.Proofs.Ythlpndgfphjlkaa
