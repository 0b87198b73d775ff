/-
  Chapter 10: what holds of a valid hierarchy (plain).
-/
import Derived.Test.YtafincpkehlcfaaDoorHierN
import Derived.Test.YtafincpkehlcfaaDoorHierI
namespace Go.Proofs.YtafincpkehlcfaaDoor
open Go.RowKit
set_option linter.unusedVariables false

inductive Path (nx : Nat → Int) : Int → List Int → Prop
  | stop {i : Int} (h : i < 0) : Path nx i []
  | step {i : Int} {P : List Int} (h : 0 ≤ i) (hp : Path nx (nx i.toNat) P) : Path nx i (i :: P)
theorem Path.det {nx : Nat → Int} {i : Int} {P Q : List Int} (h1 : Path nx i P) (h2 : Path nx i Q) : P = Q := by
  induction h1 generalizing Q with
  | stop h => cases h2 with
    | stop _ => rfl
    | step h' _ => omega
  | step h hp ih => cases h2 with
    | stop h' => omega
    | step _ hq => rw [ih hq]
theorem Path.part {nx : Nat → Int} {i : Int} {P : List Int} (h : Path nx i P) {j : Int} (hj : j ∈ P) : ∃ pre Q, P = pre ++ Q ∧ Path nx j Q := by
  induction h with
  | stop h => simp at hj
  | @step i P h hp ih =>
    rcases List.mem_cons.1 hj with e | e
    · subst e; exact ⟨[], _, rfl, .step h hp⟩
    · obtain ⟨pre, Q, h1, h2⟩ := ih e
      exact ⟨i :: pre, Q, by rw [h1]; rfl, h2⟩
theorem Path.ge {nx : Nat → Int} {i : Int} {P : List Int} (h : Path nx i P) : ∀ x ∈ P, 0 ≤ x := by
  induction h with
  | stop h => simp
  | @step i P h hp ih =>
    intro x hx
    rcases List.mem_cons.1 hx with e | e
    · subst e; exact h
    · exact ih x e
theorem Path.last {nx : Nat → Int} {i : Int} {P : List Int} (h : Path nx i P) (hne : P ≠ []) : nx (P.getLast hne).toNat < 0 := by
  induction h with
  | stop h => exact absurd rfl hne
  | @step i P h hp ih =>
    cases hp with
    | stop h' => simpa using h'
    | @step _ Q h' hq =>
      rw [List.getLast_cons (by simp)]
      exact ih (by simp)
theorem chGo_path {nx : Nat → Int} : ∀ (f : Nat) (i : Int) (l : List Int), (chGo nx f i l).2 = false → ∃ P, (chGo nx f i l).1 = l ++ P ∧ Path nx i P
  | 0, i, l, h => ⟨[], by simp [chGo], .stop (by simp [chGo] at h; omega)⟩
  | f + 1, i, l, h => by
    by_cases hc : 0 ≤ i ∧ i ∉ l
    · rw [chGo_step hc] at h ⊢
      obtain ⟨P, h1, h2⟩ := chGo_path f _ _ h
      exact ⟨i :: P, by rw [h1]; simp, .step hc.1 h2⟩
    · rw [chGo_stop hc] at h ⊢
      exact ⟨[], by simp, .stop (by simpa using h)⟩
/-- The classes from i upwards. -/
def up (cs : List Cls) (i : Int) : List Int := (chR cs i).1
section
variable {cs : List Cls} (hv : Valid cs)
include hv
theorem Valid.path {i : Int} (hi : i < cs.length) : Path (supI cs) i (up cs i) := by
  have h : (chR cs i).2 = false := by
    rcases Int.lt_or_le i 0 with h | h
    · unfold chR; rw [chGo_stop (fun h' => by omega)]; simpa using h
    · obtain ⟨n, rfl⟩ : ∃ n : Nat, i = n := ⟨i.toNat, by omega⟩
      exact (hv.cls n (by omega)).acyc
  obtain ⟨P, h1, h2⟩ := chGo_path _ _ _ h
  unfold up chR
  rw [h1]
  exact h2
theorem Valid.up_step {i : Nat} (hi : i < cs.length) : up cs i = (i : Int) :: up cs (supI cs i) := by
  have h1 := hv.path (i := (i : Int)) (by omega)
  exact h1.det (.step (by omega) (hv.path (supI_bd _ _).2))
theorem Valid.up_sub {i j : Int} (hi : i < cs.length) (hj : j ∈ up cs i) : ∃ pre, up cs i = pre ++ up cs j := by
  obtain ⟨pre, Q, h1, h2⟩ := (hv.path hi).part hj
  have hjl := (chR_bd hi).1 j hj
  exact ⟨pre, by rw [h1, h2.det (hv.path hjl.2)]⟩
theorem Valid.fnd_nm {j : Int} (h0 : 0 ≤ j) (hj : j < cs.length) : fnd cs (nmAt cs j) = j := by
  obtain ⟨n, rfl⟩ : ∃ n : Nat, j = n := ⟨j.toNat, by omega⟩
  rw [nmAt_nat (by omega)]
  exact (hv.cls n (by omega)).first
end
theorem nm_fnd {cs : List Cls} {s : ByteArray} (h : 0 ≤ fnd cs s) : nmAt cs (fnd cs s) = s := by
  unfold fnd idxI at *
  cases hq : cs.findIdx? (isCls s) with
  | none => rw [hq] at h; simp at h
  | some i =>
    obtain ⟨hi, h1, _⟩ := List.findIdx?_eq_some_iff_getElem.1 hq
    simp only
    rw [nmAt_nat hi]
    exact eqS_iff.1 h1
section
variable {cs : List Cls} (hv : Valid cs)
include hv
/-- Names and indices. -/
theorem Valid.mem_names {l : List Int} (hl : ∀ x ∈ l, 0 ≤ x ∧ x < (cs.length : Int)) (s : ByteArray) : s ∈ l.map (nmAt cs) ↔ fnd cs s ∈ l := by
  rw [List.mem_map]
  constructor
  · rintro ⟨x, hx, rfl⟩
    rw [hv.fnd_nm (hl x hx).1 (hl x hx).2]; exact hx
  · intro h
    exact ⟨_, h, nm_fnd (hl _ h).1⟩
theorem Valid.sub_iff (a b : ByteArray) : hasS (supersL cs a) b = true ↔ fnd cs b ∈ up cs (fnd cs a) := by
  rw [hasS_iff]
  exact hv.mem_names (chR_bd (fnd_bd cs a).2).1 b
theorem Valid.sub_trans {a b c : ByteArray} (h1 : hasS (supersL cs a) b = true) (h2 : hasS (supersL cs b) c = true) : hasS (supersL cs a) c = true := by
  rw [hv.sub_iff] at *
  obtain ⟨pre, h⟩ := hv.up_sub (fnd_bd cs a).2 h1
  rw [h, List.mem_append]
  exact Or.inr h2
theorem Valid.sub_anti {a b : ByteArray} (h1 : hasS (supersL cs a) b = true) (h2 : hasS (supersL cs b) a = true) : a = b := by
  rw [hv.sub_iff] at *
  have ha := (hv.path (fnd_bd cs b).2).ge _ h2
  have hb := (hv.path (fnd_bd cs a).2).ge _ h1
  by_cases e : fnd cs a = fnd cs b
  · rw [← nm_fnd ha, e, nm_fnd hb]
  · exfalso
    obtain ⟨pre, h⟩ := hv.up_sub (fnd_bd cs a).2 h1
    have hnd := (chR_bd (cs := cs) (fnd_bd cs a).2).2
    change (up cs (fnd cs a)).Nodup at hnd
    obtain ⟨n, hn⟩ : ∃ n : Nat, fnd cs a = n := ⟨(fnd cs a).toNat, by omega⟩
    have hst := hv.up_step (i := n) (by have := (fnd_bd cs a).2; omega)
    rw [← hn] at hst
    cases pre with
    | nil =>
      rw [List.nil_append] at h
      obtain ⟨m, hm⟩ : ∃ m : Nat, fnd cs b = m := ⟨(fnd cs b).toNat, by omega⟩
      have hst2 := hv.up_step (i := m) (by have := (fnd_bd cs b).2; omega)
      rw [← hm] at hst2
      rw [hst, hst2] at h
      injection h with h _
      exact e h
    | cons x pre =>
      rw [hst] at h
      have hx : fnd cs a = x := by injection h
      rw [← hst, ← hx, List.cons_append] at h
      rw [h, List.nodup_cons, List.mem_append] at hnd
      exact hnd.1 (Or.inr h2)
theorem Valid.sub_refl (a : ByteArray) : hasS (supersL cs a) a = decide (0 ≤ fnd cs a) := by
  rw [Bool.eq_iff_iff, hv.sub_iff, decide_eq_true_eq]
  constructor
  · exact fun h => (hv.path (fnd_bd cs a).2).ge _ h
  · intro h
    obtain ⟨n, hn⟩ : ∃ n : Nat, fnd cs a = n := ⟨(fnd cs a).toNat, by omega⟩
    rw [hn, hv.up_step (i := n) (by have := (fnd_bd cs a).2; omega)]
    simp
theorem Valid.kids_iff {u x : Int} : x ∈ kidsI cs u ↔ ∃ n : Nat, x = n ∧ n < cs.length ∧ supI cs n = u ∧ 0 ≤ u := by
  unfold kidsI
  rw [kidsTo_mem]
  constructor
  · rintro ⟨n, rfl, hn, hk⟩
    simp only [isKid, Bool.and_eq_true, decide_eq_true_eq] at hk
    exact ⟨n, rfl, hn, hk.1.2, by omega⟩
  · rintro ⟨n, rfl, hn, h1, h2⟩
    refine ⟨n, rfl, hn, ?_⟩
    simp only [isKid, Bool.and_eq_true, decide_eq_true_eq]
    exact ⟨⟨by omega, h1⟩, hv.fnd_nm (by omega) (by omega)⟩
end
/-! ### The search through the classes below -/
theorem addNew_pre (l r : List Int) : ∃ q, addNew l r = l ++ q ∧ ∀ x ∈ q, x ∈ r := by
  induction r generalizing l with
  | nil => exact ⟨[], by simp [addNew], by simp⟩
  | cons x r ih =>
    unfold addNew
    rw [List.foldl_cons]
    by_cases hx : x ∈ l
    · rw [if_pos hx]
      obtain ⟨q, h1, h2⟩ := ih l
      exact ⟨q, h1, fun y hy => by simp [h2 y hy]⟩
    · rw [if_neg hx]
      obtain ⟨q, h1, h2⟩ := ih (l ++ [x])
      refine ⟨x :: q, ?_, fun y hy => ?_⟩
      · unfold addNew at h1; rw [h1]; simp
      · rcases List.mem_cons.1 hy with e | e
        · simp [e]
        · simp [h2 y e]
theorem addNew_all (l r : List Int) : ∀ x ∈ r, x ∈ addNew l r := by
  induction r generalizing l with
  | nil => simp
  | cons y r ih =>
    intro x hx
    have hstep : addNew l (y :: r) = addNew (if y ∈ l then l else l ++ [y]) r := by unfold addNew; rw [List.foldl_cons]
    rw [hstep]
    rcases List.mem_cons.1 hx with e | e
    · subst e
      obtain ⟨q, h1, _⟩ := addNew_pre (if x ∈ l then l else l ++ [x]) r
      rw [h1, List.mem_append]
      left
      split
      · assumption
      · simp
    · exact ih _ x e
theorem bfs_closed {n : Nat} {kids : Int → List Int} (hk : ∀ u, ∀ x ∈ kids u, 0 ≤ x ∧ x < (n : Int)) : ∀ (f k : Nat) (l : List Int), n ≤ f + k → InRange n l →
    (∀ q (hq : q < k) (hq2 : q < l.length), ∀ x ∈ kids l[q], x ∈ l) → (∀ u ∈ bfs kids f k l, ∀ x ∈ kids u, x ∈ bfs kids f k l) ∧ ∀ x ∈ l, x ∈ bfs kids f k l
  | f, k, l, hn, hr, hc => by
    by_cases hlt : k < l.length
    · have := hr.len
      obtain ⟨f', rfl⟩ : ∃ f', f = f' + 1 := ⟨f - 1, by omega⟩
      rw [bfs_step hlt]
      obtain ⟨q, hq1, hq2⟩ := addNew_pre l (kids l[k])
      have hall := addNew_all l (kids l[k])
      have hsub : ∀ x ∈ l, x ∈ addNew l (kids l[k]) := fun x hx => by rw [hq1]; simp [hx]
      obtain ⟨h1, h2⟩ := bfs_closed hk f' (k + 1) (addNew l (kids l[k])) (by omega) (addNew_range hr (hk _)) (fun p hp hp2 x hx => by
        by_cases hpl : p < l.length
        · have e : (addNew l (kids l[k]))[p] = l[p] := by simp only [hq1]; rw [List.getElem_append_left hpl]
          rw [e] at hx
          by_cases epk : p = k
          · subst epk; exact hall x hx
          · exact hsub x (hc p (by omega) hpl x hx)
        · omega)
      exact ⟨h1, fun x hx => h2 x (hsub x hx)⟩
    · rw [bfs_stop hlt]
      refine ⟨fun u hu x hx => ?_, fun x hx => hx⟩
      obtain ⟨q, hq, rfl⟩ := List.getElem_of_mem hu
      exact hc q (by omega) hq x hx
theorem bfs_within {kids : Int → List Int} {p : Int → Prop} (hk : ∀ u, p u → ∀ x ∈ kids u, p x) : ∀ (f k : Nat) (l : List Int), (∀ x ∈ l, p x) → ∀ x ∈ bfs kids f k l, p x
  | 0, k, l, h => h
  | f + 1, k, l, h => by
    by_cases hlt : k < l.length
    · rw [bfs_step hlt]
      refine bfs_within hk f (k + 1) _ fun x hx => ?_
      obtain ⟨q, hq1, hq2⟩ := addNew_pre l (kids l[k])
      rw [hq1, List.mem_append] at hx
      rcases hx with hx | hx
      · exact h x hx
      · exact hk _ (h _ (List.getElem_mem hlt)) x (hq2 x hx)
    · rw [bfs_stop hlt]; exact h
theorem Valid.subs_iff {cs : List Cls} (hv : Valid cs) (s : ByteArray) (x : Int) : x ∈ subsI cs s ↔ 0 ≤ x ∧ x < (cs.length : Int) ∧ fnd cs s ∈ up cs x := by
  constructor
  · intro hx
    have hr := (subsI_range cs s).bd x hx
    refine ⟨hr.1, hr.2, ?_⟩
    unfold subsI at hx
    split at hx
    · simp at hx
    · rename_i hneg
      refine (bfs_within (p := fun x => (0 ≤ x ∧ x < (cs.length : Int)) ∧ fnd cs s ∈ up cs x) (fun u hu y hy => ?_) _ _ _ (fun y hy => ?_) x hx).2
      · rw [hv.kids_iff] at hy
        obtain ⟨n, rfl, hn, h1, h2⟩ := hy
        refine ⟨by omega, ?_⟩
        rw [hv.up_step hn, h1]
        simp [hu.2]
      · simp at hy; subst hy
        have := fnd_bd cs s
        obtain ⟨n, hn⟩ : ∃ n : Nat, fnd cs s = n := ⟨(fnd cs s).toNat, by omega⟩
        rw [hn] at this ⊢
        refine ⟨by omega, ?_⟩
        rw [hv.up_step (i := n) (by omega)]
        simp
  · rintro ⟨h0, hl, hm⟩
    have hneg : ¬ fnd cs s < 0 := by
      have := (hv.path hl).ge _ hm
      omega
    unfold subsI
    rw [if_neg hneg]
    have hb := fnd_bd cs s
    obtain ⟨hcl, hin⟩ := bfs_closed (n := cs.length) (kidsI_range cs) cs.length 0 [fnd cs s] (by omega) ⟨fun x hx => by simp at hx; subst hx; omega, by simp⟩ (fun q hq => by omega)
    have key : ∀ (P : List Int) (x : Int), Path (supI cs) x P → 0 ≤ x → x < (cs.length : Int) → fnd cs s ∈ P → x ∈ bfs (kidsI cs) cs.length 0 [fnd cs s] := by
      intro P
      induction P with
      | nil => intro x _ _ _ hm; simp at hm
      | cons y P ih =>
        intro x hp h0 hl hm
        have hxy : y = x := by cases hp; rfl
        subst hxy
        by_cases e : fnd cs s = y
        · rw [← e]; exact hin _ (by simp)
        · have hm' : fnd cs s ∈ P := by
            rcases List.mem_cons.1 hm with h | h
            · exact absurd h e
            · exact h
          obtain ⟨n, rfl⟩ : ∃ n : Nat, y = n := ⟨y.toNat, by omega⟩
          have hp' : Path (supI cs) (supI cs n) P := by cases hp; assumption
          have h0' : 0 ≤ supI cs n := by
            cases hp' with
            | stop h => simp at hm'
            | step h _ => exact h
          refine hcl _ (ih _ hp' h0' (supI_bd _ _).2 hm') _ ?_
          rw [hv.kids_iff]
          exact ⟨n, rfl, by omega, rfl, h0'⟩
    exact key _ x (hv.path hl) h0 hl hm
theorem Valid.has_subs {cs : List Cls} (hv : Valid cs) (a b : ByteArray) : hasS (subsL cs b) a = hasS (supersL cs a) b := by
  rw [Bool.eq_iff_iff, hv.sub_iff, hasS_iff]
  unfold subsL
  rw [sortS_mem, hv.mem_names (subsI_range cs b).bd, hv.subs_iff]
  constructor
  · exact fun h => h.2.2
  · intro h
    have := fnd_bd cs a
    refine ⟨?_, this.2, h⟩
    rcases Int.lt_or_le (fnd cs a) 0 with h1 | h1
    · exfalso
      have hp : up cs (fnd cs a) = [] := (hv.path this.2).det (.stop h1)
      rw [hp] at h
      simp at h
    · exact h1
theorem Valid.top {cs : List Cls} (hv : Valid cs) (a : ByteArray) (hne : supersL cs a ≠ []) : ∃ j : Nat, ∃ hj : j < cs.length, (supersL cs a).getLast hne = cs[j].name ∧ cs[j].super.toList.isEmpty = true := by
  have hne' : up cs (fnd cs a) ≠ [] := fun h => hne (by unfold supersL; change (up cs (fnd cs a)).map (nmAt cs) = []; rw [h]; rfl)
  have hb := (chR_bd (cs := cs) (fnd_bd cs a).2).1 _ (List.getLast_mem hne')
  have hl := (hv.path (fnd_bd cs a).2).last hne'
  obtain ⟨j, hj⟩ : ∃ j : Nat, (up cs (fnd cs a)).getLast hne' = j := ⟨((up cs (fnd cs a)).getLast hne').toNat, by
    have : 0 ≤ (up cs (fnd cs a)).getLast hne' := hb.1
    omega⟩
  have hb2 : (up cs (fnd cs a)).getLast hne' < cs.length := hb.2
  rw [hj] at hl hb2
  have hjl : j < cs.length := by omega
  refine ⟨j, hjl, ?_, ?_⟩
  · have : (supersL cs a).getLast hne = nmAt cs ((up cs (fnd cs a)).getLast hne') := by
      unfold supersL
      exact List.getLast_map _
    rw [this, hj, nmAt_nat hjl]
  · rw [Int.toNat_natCast, supI_at hjl] at hl
    split at hl
    · assumption
    · rcases (hv.cls j hjl).known with h | h
      · exact h
      · omega
end Go.Proofs.YtafincpkehlcfaaDoor
