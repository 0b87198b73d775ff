/-
  Chapters 10, 12: plain laws that the answer's check of a unit leans on.
  Chapter 10: the subclasses of a class in any hierarchy (plain).
  Chapters 12, 13: Find (the program's and the answer's), in any unit; for seats without the reading of texts.
  Chapter 42: the functions that a rule means (plain).
  Chapter 12: the answer's fields, uses, ranges and control, as the plain functions of the program's check (plain).
-/
import Derived.Test.YtmhdambkchlilaaGreatDoorJUs
import Derived.Test.YtmhdambkchlilaaGreatDoorJGk
import Derived.Test.YtmhdambkchlilaaGreatDoorJGg
import Derived.Test.YtmhdambkchlilaaGreatDoorJGt
import Derived.Test.YtmhdambkchlilaaGreatDoorJGc
import Derived.Test.YtmhdambkchlilaaGreatDoorJGb
namespace Go.Proofs.YtmhdambkchlilaaGreatDoor
open Go.RowKit
set_option linter.unusedVariables false

/-! ### No class bears a keyword's name -/
theorem noKwF {cs : List Cls} (h : ∀ c ∈ cs, identB c.name = true) {s : ByteArray} (hs : identB s = false) : ¬ 0 ≤ fnd cs s := fun h0 => by
  obtain ⟨c, hc, rfl⟩ := fnd_found h0
  rw [h c hc] at hs
  cases hs
def intB : ByteArray := ⟨#[105, 110, 116]⟩
def nullB : ByteArray := ⟨#[110, 117, 108, 108]⟩
theorem intB_l : intB.toList = wInt := by rw [ByteArray.toList_eq]; rfl
theorem nullB_l : nullB.toList = wNull := by rw [ByteArray.toList_eq]; rfl
theorem ident_int : identB intB = false := by kernel_rfl
theorem ident_null : identB nullB = false := by kernel_rfl
structure NoKw (cs : List Cls) : Prop where
  i : ¬ 0 ≤ fnd cs intB
  n : ¬ 0 ≤ fnd cs nullB
theorem NoKw.of {cs : List Cls} (h : (hierE cs).2 = 0) : NoKw cs := by
  have hn : ∀ c ∈ cs, identB c.name = true := fun c hc => by
    obtain ⟨i, hi, rfl⟩ := List.getElem_of_mem hc
    exact (clsV_of ((hierE_valid h).2 i hi)).name
  exact ⟨noKwF hn ident_int, noKwF hn ident_null⟩
theorem isIntT_iff {s : ByteArray} : isIntT s = true ↔ s = intB := by
  unfold isIntT
  rw [← intB_l]
  exact eqS_iff
theorem isNull_iff {s : ByteArray} : (s.toList == wNull) = true ↔ s = nullB := by
  rw [← nullB_l]
  exact eqS_iff
theorem isClsT_nk {cs : List Cls} (h : NoKw cs) (s : ByteArray) : isClsT cs s = decide (0 ≤ fnd cs s) := by
  unfold isClsT
  cases hi : isIntT s with
  | false => rfl
  | true =>
    obtain rfl := isIntT_iff.1 hi
    rw [decide_eq_false h.i]
    rfl
/-- The answer's Fits. -/
def fitsR (cs : List Cls) (p q : ByteArray) : Bool := p.toList == q.toList || if p.toList == wNull then !isIntT q else decide (0 ≤ fnd cs p) && (decide (0 ≤ fnd cs q) && hasS (supersL cs p) q)
theorem fitsR_eq {cs : List Cls} (h : NoKw cs) (p q : ByteArray) : fitsR cs p q = fitsB cs p q := by
  unfold fitsR fitsB
  rw [isClsT_nk h, isClsT_nk h]
  cases hp : (p.toList == wNull) with
  | false => simp [Bool.and_assoc]
  | true =>
    obtain rfl := isNull_iff.1 hp
    rw [decide_eq_false h.n]
    simp

/-! ### A method that a class itself declares -/
theorem chR_cons {cs : List Cls} {i : Int} (h0 : 0 ≤ i) (h1 : i < cs.length) : ∃ t, (chR cs i).1 = i :: t := by
  unfold chR
  obtain ⟨n, hn⟩ : ∃ n, cs.length = n + 1 := ⟨cs.length - 1, by omega⟩
  rw [hn, chGo_step ⟨h0, by simp⟩]
  exact chGo_pre n _ _
theorem mIdx_at {cs : List Cls} {m : ByteArray} {j : Int} {x : Cls} (h : cs[j.toNat]? = some x) : mIdx cs m j = idxI (isSg m) x.methods := by
  unfold mIdx
  rw [h]
theorem lookL_mem {cs : List Cls} {m : ByteArray} : ∀ {l : List Int}, (lookL cs m l = (-1, -1)) ∨ (∃ j ∈ l, lookL cs m l = (j, mIdx cs m j) ∧ 0 ≤ mIdx cs m j)
  | [] => Or.inl rfl
  | j :: r => by
    unfold lookL
    by_cases h : 0 ≤ mIdx cs m j
    · rw [if_pos h]; exact Or.inr ⟨j, by simp, rfl, h⟩
    · rw [if_neg h]
      rcases lookL_mem (l := r) with h1 | ⟨i, hi, h1, h2⟩
      · exact Or.inl h1
      · exact Or.inr ⟨i, by simp [hi], h1, h2⟩
/-- static and declares agree. -/
theorem statS_look (cs : List Cls) (x : Ins) : statS cs x = (sgAt cs (lookS cs x.cls x.name)).bind fun g => if nmAt cs (lookS cs x.cls x.name).1 = x.cls ∧ g.static = true then some g else none := by
  obtain ⟨f0, f1⟩ := fnd_bd cs x.cls
  unfold statS
  by_cases hf : fnd cs x.cls < 0
  · rw [if_pos hf]
    have h1 : lookS cs x.cls x.name = (-1, -1) := by
      unfold lookS lookI chR
      rw [chGo_stop (fun h => by omega)]
      rfl
    rw [h1]
    rfl
  rw [if_neg hf]
  obtain ⟨t, ht⟩ := chR_cons (cs := cs) (i := fnd cs x.cls) (by omega) (by omega)
  have hj : (fnd cs x.cls).toNat < cs.length := by omega
  rw [List.getElem?_eq_getElem hj]
  simp only
  have hm := mIdx_at (m := x.name) (List.getElem?_eq_getElem hj)
  have hnm : nmAt cs (fnd cs x.cls) = x.cls := nm_fndG (by omega)
  by_cases h0 : idxI (isSg x.name) cs[(fnd cs x.cls).toNat].methods < 0
  · rw [if_pos h0]
    symm
    have hfix := chR_fix cs x.cls
    have hl : lookS cs x.cls x.name = lookL cs x.name t := by
      show lookL cs x.name (chR cs (fnd cs x.cls)).1 = _
      rw [ht, lookL, if_neg (by rw [hm]; omega)]
    rcases lookL_mem (cs := cs) (m := x.name) (l := t) with h1 | ⟨j, hjt, h1, h2⟩
    · rw [hl, h1]; rfl
    · rw [hl, h1]
      have hne : ¬ nmAt cs j = x.cls := fun e => by
        have h3 := hfix j (by rw [ht]; simp [hjt])
        rw [e] at h3
        rw [← h3, hm] at h2
        omega
      cases sgAt cs (j, mIdx cs x.name j) with
      | none => rfl
      | some g => simp [hne]
  · rw [if_neg h0]
    have hl : lookS cs x.cls x.name = (fnd cs x.cls, idxI (isSg x.name) cs[(fnd cs x.cls).toNat].methods) := by
      show lookL cs x.name (chR cs (fnd cs x.cls)).1 = _
      rw [ht, lookL, if_pos (by rw [hm]; omega), hm]
    rw [hl]
    have hs : sgAt cs (fnd cs x.cls, idxI (isSg x.name) cs[(fnd cs x.cls).toNat].methods) = cs[(fnd cs x.cls).toNat].methods[(idxI (isSg x.name) cs[(fnd cs x.cls).toNat].methods).toNat]? := by
      unfold sgAt
      rw [if_neg (by show ¬ fnd cs x.cls < 0; omega)]
      simp only
      rw [List.getElem?_eq_getElem hj]
      rfl
    rw [hs]
    cases cs[(fnd cs x.cls).toNat].methods[(idxI (isSg x.name) cs[(fnd cs x.cls).toNat].methods).toNat]? with
    | none => rfl
    | some g => simp [hnm]
end Go.Proofs.YtmhdambkchlilaaGreatDoor
namespace Go.Proofs.YtmhdambkchlilaaGreatDoor
open Go.RowKit
set_option linter.unusedVariables false

theorem chGo_closed {nx : Nat → Int} {n : Nat} (hnx : ∀ k, nx k < n) : ∀ (f : Nat) (i : Int) (l : List Int), n ≤ f + l.length → InRange n l → i < n → (∀ t (h : t + 1 < l.length), nx (l[t]'(by omega)).toNat = l[t + 1]) → (∀ h : 0 < l.length, nx (l[l.length - 1]'(by omega)).toNat = i) →
    ∀ j ∈ (chGo nx f i l).1, 0 ≤ nx j.toNat → nx j.toNat ∈ (chGo nx f i l).1
  | f, i, l, hf, hr, hi, h1, h2 => by
    by_cases hs : 0 ≤ i ∧ i ∉ l
    · obtain ⟨f', rfl⟩ : ∃ f', f = f' + 1 := ⟨f - 1, by have := (hr.snoc ⟨hs.1, hi⟩ hs.2).len; simp at this; omega⟩
      rw [chGo_step hs]
      refine chGo_closed hnx f' (nx i.toNat) (l ++ [i]) (by simp; omega) (hr.snoc ⟨hs.1, hi⟩ hs.2) (hnx _) (fun t h => ?_) (fun h => ?_)
      · by_cases e : t + 1 < l.length
        · rw [List.getElem_append_left (by omega), List.getElem_append_left e]; exact h1 t e
        · have et : t + 1 = l.length := by simp at h; omega
          rw [List.getElem_append_left (by omega), List.getElem_append_right (by omega)]
          simp only [et, Nat.sub_self, List.getElem_cons_zero]
          have := h2 (by omega)
          rw [← this]
          congr 2
          simp only [show l.length - 1 = t by omega]
      · simp
    · rw [chGo_stop hs]
      show ∀ j ∈ l, 0 ≤ nx j.toNat → nx j.toNat ∈ l
      intro j hj h0
      obtain ⟨t, ht, rfl⟩ := List.getElem_of_mem hj
      by_cases e : t + 1 < l.length
      · rw [h1 t e]; exact List.getElem_mem e
      · have et : l.length - 1 = t := by omega
        have := h2 (by omega)
        simp only [et] at this
        rw [this] at h0 ⊢
        exact Classical.byContradiction fun hn => hs ⟨h0, hn⟩
theorem chGo_within {nx : Nat → Int} {q : Int → Prop} (hq : ∀ j, q j → 0 ≤ nx j.toNat → q (nx j.toNat)) : ∀ (f : Nat) (i : Int) (l : List Int), (∀ j ∈ l, q j) → (0 ≤ i → q i) → ∀ j ∈ (chGo nx f i l).1, q j
  | 0, i, l, h, _ => h
  | f + 1, i, l, h, hi => by
    by_cases hs : 0 ≤ i ∧ i ∉ l
    · rw [chGo_step hs]
      refine chGo_within hq f _ _ (fun j hj => ?_) (fun h0 => hq i (hi hs.1) h0)
      rcases List.mem_append.1 hj with hj | hj
      · exact h j hj
      · obtain rfl := List.mem_singleton.1 hj; exact hi hs.1
    · rw [chGo_stop hs]; exact h
theorem chR_closed {cs : List Cls} {i : Int} (hi : i < cs.length) : ∀ j ∈ (chR cs i).1, 0 ≤ supI cs j.toNat → supI cs j.toNat ∈ (chR cs i).1 :=
  chGo_closed (fun k => (supI_bd cs k).2) cs.length i [] (by simp) ⟨by simp, by simp⟩ hi (fun t h => by simp at h) (fun h => by simp at h)
theorem supI_fix {cs : List Cls} {k : Nat} (h : 0 ≤ supI cs k) : fnd cs (nmAt cs (supI cs k)) = supI cs k := by
  unfold supI at h ⊢
  cases hq : cs[k]? with
  | none => rw [hq] at h; simp at h
  | some x =>
    rw [hq] at h
    simp only at h ⊢
    split
    · rename_i he; rw [if_pos he] at h; omega
    · rename_i he; rw [if_neg he] at h; rw [nm_fndG h]
theorem kidG {cs : List Cls} {u x : Int} : x ∈ kidsI cs u ↔ ∃ i : Nat, x = i ∧ i < cs.length ∧ 0 ≤ supI cs i ∧ supI cs i = u ∧ fnd cs (nmAt cs i) = i := by
  unfold kidsI
  rw [kidsTo_mem]
  constructor
  · rintro ⟨i, rfl, hi, hk⟩
    unfold isKid at hk
    simp only [Bool.and_eq_true, decide_eq_true_eq] at hk
    exact ⟨i, rfl, hi, hk.1.1, hk.1.2, hk.2⟩
  · rintro ⟨i, rfl, hi, h1, h2, h3⟩
    exact ⟨i, rfl, hi, by unfold isKid; simp only [Bool.and_eq_true, decide_eq_true_eq]; exact ⟨⟨h1, h2⟩, h3⟩⟩
theorem addNew_preG (l r : List Int) : ∃ q, addNew l r = l ++ q ∧ ∀ y ∈ q, y ∈ r := by
  induction r generalizing l with
  | nil => exact ⟨[], by simp [addNew], by simp⟩
  | cons x r ih =>
    unfold addNew
    rw [List.foldl_cons]
    by_cases hx : x ∈ l
    · rw [if_pos hx]
      obtain ⟨q, h1, h2⟩ := ih l
      exact ⟨q, h1, fun y hy => by simp [h2 y hy]⟩
    · rw [if_neg hx]
      obtain ⟨q, h1, h2⟩ := ih (l ++ [x])
      refine ⟨x :: q, ?_, fun y hy => ?_⟩
      · unfold addNew at h1; rw [h1]; simp
      · rcases List.mem_cons.1 hy with e | e
        · simp [e]
        · simp [h2 y e]
theorem addNew_allG (l r : List Int) : ∀ x ∈ r, x ∈ addNew l r := by
  induction r generalizing l with
  | nil => simp
  | cons y r ih =>
    intro x hx
    have hstep : addNew l (y :: r) = addNew (if y ∈ l then l else l ++ [y]) r := by unfold addNew; rw [List.foldl_cons]
    rw [hstep]
    rcases List.mem_cons.1 hx with e | e
    · subst e
      obtain ⟨q, h1, _⟩ := addNew_preG (if x ∈ l then l else l ++ [x]) r
      rw [h1, List.mem_append]
      left
      split
      · assumption
      · simp
    · exact ih _ x e
theorem bfs_closedG {n : Nat} {kids : Int → List Int} (hk : ∀ u, ∀ x ∈ kids u, 0 ≤ x ∧ x < (n : Int)) : ∀ (f k : Nat) (l : List Int), n ≤ f + k → InRange n l →
    (∀ q (hq : q < k) (hq2 : q < l.length), ∀ x ∈ kids l[q], x ∈ l) → (∀ u ∈ bfs kids f k l, ∀ x ∈ kids u, x ∈ bfs kids f k l) ∧ ∀ x ∈ l, x ∈ bfs kids f k l
  | f, k, l, hn, hr, hc => by
    by_cases hlt : k < l.length
    · have := hr.len
      obtain ⟨f', rfl⟩ : ∃ f', f = f' + 1 := ⟨f - 1, by omega⟩
      rw [bfs_step hlt]
      obtain ⟨q, hq1, hq2⟩ := addNew_preG l (kids l[k])
      have hall := addNew_allG l (kids l[k])
      have hsub : ∀ x ∈ l, x ∈ addNew l (kids l[k]) := fun x hx => by rw [hq1]; simp [hx]
      obtain ⟨h1, h2⟩ := bfs_closedG hk f' (k + 1) (addNew l (kids l[k])) (by omega) (addNew_range hr (hk _)) (fun p hp hp2 x hx => by
        by_cases hpl : p < l.length
        · have e : (addNew l (kids l[k]))[p] = l[p] := by simp only [hq1]; rw [List.getElem_append_left hpl]
          rw [e] at hx
          by_cases epk : p = k
          · subst epk; exact hall x hx
          · exact hsub x (hc p (by omega) hpl x hx)
        · omega)
      exact ⟨h1, fun x hx => h2 x (hsub x hx)⟩
    · rw [bfs_stop hlt]
      refine ⟨fun u hu x hx => ?_, fun x hx => hx⟩
      obtain ⟨q, hq, rfl⟩ := List.getElem_of_mem hu
      exact hc q (by omega) hq x hx
theorem bfs_withinG {kids : Int → List Int} {p : Int → Prop} (hk : ∀ u, p u → ∀ x ∈ kids u, p x) : ∀ (f k : Nat) (l : List Int), (∀ x ∈ l, p x) → ∀ x ∈ bfs kids f k l, p x
  | 0, k, l, h => h
  | f + 1, k, l, h => by
    by_cases hlt : k < l.length
    · rw [bfs_step hlt]
      refine bfs_withinG hk f (k + 1) _ fun x hx => ?_
      obtain ⟨q, hq1, hq2⟩ := addNew_preG l (kids l[k])
      rw [hq1, List.mem_append] at hx
      rcases hx with hx | hx
      · exact h x hx
      · exact hk _ (h _ (List.getElem_mem hlt)) x (hq2 x hx)
    · rw [bfs_stop hlt]; exact h
/-- The subclasses, by the chains. -/
theorem subs_iffG (cs : List Cls) (s : ByteArray) (x : Int) : x ∈ subsI cs s ↔ (0 ≤ x ∧ x < (cs.length : Int)) ∧ fnd cs (nmAt cs x) = x ∧ fnd cs s ∈ (chR cs x).1 := by
  have hb := fnd_bd cs s
  constructor
  · intro hx
    unfold subsI at hx
    split at hx
    · simp at hx
    rename_i hneg
    refine bfs_withinG (p := fun x => (0 ≤ x ∧ x < (cs.length : Int)) ∧ fnd cs (nmAt cs x) = x ∧ fnd cs s ∈ (chR cs x).1) (fun u hu y hy => ?_) _ _ _ (fun y hy => ?_) x hx
    · obtain ⟨i, rfl, hi, h1, h2, h3⟩ := kidG.1 hy
      refine ⟨by omega, h3, ?_⟩
      obtain ⟨t, ht⟩ := chR_cons (cs := cs) (i := (i : Int)) (by omega) (by omega)
      have hcl := chR_closed (cs := cs) (i := (i : Int)) (by omega)
      have hu2 : u ∈ (chR cs i).1 := by
        have := hcl i (by rw [ht]; simp) (by rw [Int.toNat_natCast]; exact h1)
        rw [Int.toNat_natCast, h2] at this
        exact this
      exact chGo_within (nx := supI cs) (q := fun j => j ∈ (chR cs i).1) (fun j hj h0 => hcl j hj h0) cs.length u [] (by simp) (fun _ => hu2) _ hu.2.2
    · obtain rfl := List.mem_singleton.1 hy
      obtain ⟨t, ht⟩ := chR_cons (cs := cs) (i := fnd cs s) (by omega) hb.2
      exact ⟨⟨by omega, hb.2⟩, by rw [nm_fndG (by omega)], by rw [ht]; simp⟩
  · rintro ⟨hx, hfix, hm⟩
    have hneg : ¬ fnd cs s < 0 := by
      have := (chR_bd (cs := cs) (i := x) hx.2).1 _ hm
      omega
    unfold subsI
    rw [if_neg hneg]
    obtain ⟨hcl, hin⟩ := bfs_closedG (n := cs.length) (kidsI_range cs) cs.length 0 [fnd cs s] (by omega) ⟨fun x hx => by simp at hx; subst hx; omega, by simp⟩ (fun q hq => by omega)
    refine Classical.byContradiction fun hno => ?_
    refine (chGo_within (nx := supI cs) (q := fun j => (0 ≤ j ∧ j < (cs.length : Int)) ∧ fnd cs (nmAt cs j) = j ∧ j ∉ bfs (kidsI cs) cs.length 0 [fnd cs s]) (fun j hj h0 => ?_) cs.length x [] (by simp) (fun _ => ⟨hx, hfix, hno⟩) _ hm).2.2 (hin _ (by simp))
    refine ⟨⟨h0, (supI_bd _ _).2⟩, supI_fix h0, fun hmem => hj.2.2 (hcl _ hmem _ ?_)⟩
    refine kidG.2 ⟨j.toNat, by omega, by omega, h0, rfl, ?_⟩
    rw [show ((j.toNat : Nat) : Int) = j by omega]
    exact hj.2.1
end Go.Proofs.YtmhdambkchlilaaGreatDoor
namespace Go.Proofs.YtmhdambkchlilaaGreatDoor
open Go.RowKit
set_option linter.unusedVariables false
def isFun (c m : ByteArray) (f : Fun) : Bool := f.cls.toList == c.toList && f.name.toList == m.toList
def findU (fs : List Fun) (c m : ByteArray) : Int := idxI (isFun c m) fs

/-! ### ir.Find -/
theorem irFindLit (B1 B2 : Nat) (x : Fun) (A4 A6 : Option Addr) (c4 c6 : Nat) (s t : ByteArray) (w : World) (h1 : B1 < w.heap.size) (h2 : B2 < w.heap.size) (d1 : w.cell? ⟨B1, 0, none⟩ = some (.string s)) (d2 : w.cell? ⟨B2, 0, none⟩ = some (.string t)) :
    Calls Tryz.prog 81 #[.agg #[.string x.cls, .string x.name, .bool x.static, .int .i64 x.nparams, .slice A4 x.vars.length c4, .string x.result, .slice A6 x.code.length c6], .pointer (some ⟨B1, 0, none⟩), .pointer (some ⟨B2, 0, none⟩)] w fun e w' => e = .returned (.bool (isFun s t x)) ∧ Below w.heap.size w w' := by
  have HF : Hid (isFun s t x = (x.cls.toList == s.toList && x.name.toList == t.toList)) := rfl
  rw [HF.out]
  cases hq : (x.cls.toList == s.toList) with
  | true =>
    go_enter Tryz.func81, Tryz.ntmps81
    go_wp2_with fail
    go_ret
    exact ⟨by rw [Bool.true_and]; rfl, bw_alloc (Below.refl _ _)⟩
  | false =>
    go_enter Tryz.func81, Tryz.ntmps81
    go_wp2_with fail
    go_ret
    exact ⟨by rw [Bool.false_and]; rfl, bw_alloc (Below.refl _ _)⟩
set_option maxHeartbeats 1000000 in
theorem irFindIdx (A : Option Addr) (c B1 B2 : Nat) (l : List Fun) (s t : ByteArray) (w : World) (hl : l.length ≤ 9223372036854775807) (hs : Sl Lay.fun w A l) (h1 : B1 < w.heap.size) (h2 : B2 < w.heap.size) (d1 : w.cell? ⟨B1, 0, none⟩ = some (.string s)) (d2 : w.cell? ⟨B2, 0, none⟩ = some (.string t)) :
    Calls Tryz.prog 80 #[.slice A l.length c, .func (.func 81) #[] #[.pointer (some ⟨B1, 0, none⟩), .pointer (some ⟨B2, 0, none⟩)]] w fun e w' => e = .returned (.int .i64 (findU l s t)) ∧ Below w.heap.size w w' := by
  have HFU : Hid (findU l s t = idxI (isFun s t) l) := rfl
  rw [HFU.out]
  go_enter Tryz.func80, Tryz.ntmps80
  go_wp2_with fail
  go_loopw [5, 8] (fun j i wr => ∃ k : Nat, k ≤ l.length ∧ i = .int .i64 k ∧ Hid (∀ i (hi : i < k) (hi2 : i < l.length), isFun s t l[i] = false) ∧ Below w.heap.size w wr) (fun _ i _ => l.length - (intOf i).toNat)
  case atStart => exact ⟨0, Nat.zero_le _, rfl, fun i hi => by omega, Below.refl _ _⟩
  case round =>
    obtain ⟨k, hk, rfl, HN, hbw⟩ := hrel
    by_cases hlt : k < l.length
    · obtain ⟨b, o, A4, c4, A6, c6, rfl, hb, e0, e1, e2, e3, e4, e5, e6, hc4, hs4, hc6, hs6⟩ := (hs.mono hbw).fun_at hlt
      go_wp2_with fail
      refine (irFindLit B1 B2 l[k] A4 A6 c4 c6 s t _ (Nat.lt_of_lt_of_le h1 hbw.size) (Nat.lt_of_lt_of_le h2 hbw.size) (by rw [hbw.cell h1]; exact d1) (by rw [hbw.cell h2]; exact d2)).mono ?_
      rintro e w1 ⟨rfl, hb1⟩
      cases hq : isFun s t l[k] with
      | true =>
        have HE := Lib.hid (idxI_at hlt (fun i hi => HN.out i hi (by omega)) hq)
        clear hq
        go_wp2_with fail
        go_ret
        exact ⟨by rw [HE.out]; rfl, below_step hbw hb1⟩
      | false =>
        have HE : Hid (∀ i (hi : i < k + 1) (hi2 : i < l.length), isFun s t l[i] = false) := fun i hi hi2 => by
          by_cases e : i = k
          · subst e; exact hq
          · exact HN.out i (by omega) hi2
        clear hq
        go_wp2_with fail
        go_roundw
        case rel => exact ⟨k + 1, by omega, by go_num, HE, below_step hbw hb1⟩
        case measure => simp [intOf]; omega
    · have HE := Lib.hid (idxI_none (p := isFun s t) (l := l) (fun i hi => HN.out i (by omega) hi))
      go_wp2_with fail
      go_ret
      exact ⟨by rw [HE.out]; rfl, hbw⟩
theorem irFind_any (A0 A : Option Addr) (n0 c0 c : Nat) (mn : Int) (l : List Fun) (s t : ByteArray) (w : World) (hl : l.length ≤ 9223372036854775807) (hs : Sl Lay.fun w A l) :
    Calls Tryz.prog 39 #[.agg #[.slice A0 n0 c0, .slice A l.length c, .int .i64 mn], .string s, .string t] w fun e w' => e = .returned (.int .i64 (findU l s t)) ∧ Below w.heap.size w w' := by
  have hb0 : Below w.heap.size w (((w.alloc (.cells #[.slice A0 n0 c0, .slice A l.length c, .int .i64 mn] 32)).alloc (.cells #[.string s] 9)).alloc (.cells #[.string t] 9)) := (by repeat (first | assumption | exact Below.refl _ _ | apply bw_alloc | apply bw_drew | apply bw_drewN | apply bw_later | apply bw_step))
  have b1 : Box (((w.alloc (.cells #[.slice A0 n0 c0, .slice A l.length c, .int .i64 mn] 32)).alloc (.cells #[.string s] 9)).alloc (.cells #[.string t] 9)) (w.heap.size + 1) [.string s] 9 := (Box.at (by simp)).alloc _
  have b2 : Box (((w.alloc (.cells #[.slice A0 n0 c0, .slice A l.length c, .int .i64 mn] 32)).alloc (.cells #[.string s] 9)).alloc (.cells #[.string t] 9)) (w.heap.size + 2) [.string t] 9 := Box.at (by simp)
  have HC := Lib.hid (irFindIdx A c (w.heap.size + 1) (w.heap.size + 2) l s t _ hl (hs.mono hb0) b1.lt b2.lt (b1.cell 0 rfl) (b2.cell 0 rfl))
  go_enter Tryz.func39, Tryz.ntmps39
  go_wp2_with fail
  refine HC.out.mono ?_
  rintro e w1 ⟨rfl, hb1⟩
  go_wp2_with fail
  go_ret
  exact ⟨rfl, below_step hb0 hb1⟩

set_option maxHeartbeats 1000000 in
theorem refFind_any (A0 A : Option Addr) (n0 c0 c : Nat) (mn : Int) (l : List Fun) (s t : ByteArray) (w : World) (hl : l.length ≤ 9223372036854775807) (hs : Sl Lay.fun w A l) :
    Calls Tryz.prog 82 #[.agg #[.slice A0 n0 c0, .slice A l.length c, .int .i64 mn], .string s, .string t] w fun e w' => e = .returned (.int .i64 (findU l s t)) ∧ Below w.heap.size w w' := by
  have HFU : Hid (findU l s t = idxI (isFun s t) l) := rfl
  rw [HFU.out]
  go_enter Tryz.func82, Tryz.ntmps82
  go_wp2_with fail
  have b1 : Box (w.alloc (.cells #[.slice A0 n0 c0, .slice A l.length c, .int .i64 mn] 32)) w.heap.size [.slice A0 n0 c0, .slice A l.length c, .int .i64 mn] 32 := Box.at (by simp)
  have hbW : Below w.heap.size w (w.alloc (.cells #[.slice A0 n0 c0, .slice A l.length c, .int .i64 mn] 32)) := (by repeat (first | assumption | exact Below.refl _ _ | apply bw_alloc | apply bw_drew | apply bw_drewN | apply bw_later | apply bw_step))
  generalize World.alloc w _ = W1 at *
  go_loopw [7] (fun i wr => ∃ k : Nat, k ≤ l.length ∧ i = .int .i64 k ∧ Hid (∀ i (hi : i < k) (hi2 : i < l.length), isFun s t l[i] = false) ∧ Below W1.heap.size W1 wr) (fun i _ => l.length - (intOf i).toNat)
  case atStart => exact ⟨0, Nat.zero_le _, rfl, fun i hi => by omega, Below.refl _ _⟩
  case round =>
    obtain ⟨k, hk, rfl, HN, hbw⟩ := hrel
    have bz := b1.mono hbw
    have y0 := bz.cell 0 rfl
    have y1 := bz.cell 1 rfl
    have y2 := bz.cell 2 rfl
    have yl := bz.lt
    have hbf := below_step hbW hbw
    by_cases hlt : k < l.length
    · obtain ⟨b, o, A4, c4, A6, c6, rfl, hb, e0, e1, e2, e3, e4, e5, e6, hc4, hs4, hc6, hs6⟩ := (hs.mono hbf).fun_at hlt
      have hki : (k : Int) < l.length := by omega
      cases q1 : (l[k].cls.toList == s.toList) with
      | false =>
        have HE : Hid (∀ i (hi : i < k + 1) (hi2 : i < l.length), isFun s t l[i] = false) := fun i hi hi2 => by
          by_cases e : i = k
          · subst e; unfold isFun; rw [q1]; rfl
          · exact HN.out i (by omega) hi2
        go_wp2_with fail
        go_roundw
        case rel => exact ⟨k + 1, by omega, by go_num, HE, hbw⟩
        case measure => simp [intOf]; omega
      | true =>
        cases q2 : (l[k].name.toList == t.toList) with
        | false =>
          have HE : Hid (∀ i (hi : i < k + 1) (hi2 : i < l.length), isFun s t l[i] = false) := fun i hi hi2 => by
            by_cases e : i = k
            · subst e; unfold isFun; rw [q1, q2]; rfl
            · exact HN.out i (by omega) hi2
          go_wp2_with fail
          go_roundw
          case rel => exact ⟨k + 1, by omega, by go_num, HE, hbw⟩
          case measure => simp [intOf]; omega
        | true =>
          have HE := Lib.hid (idxI_at hlt (fun i hi => HN.out i hi (by omega)) (show isFun s t l[k] = true by unfold isFun; rw [q1, q2]; rfl))
          go_wp2_with fail
          go_ret
          exact ⟨by rw [HE.out]; rfl, hbf⟩
    · have HE := Lib.hid (idxI_none (p := isFun s t) (l := l) (fun i hi => HN.out i (by omega) hi))
      go_wp2_with fail
      go_ret
      exact ⟨by rw [HE.out]; rfl, hbf⟩
theorem ref13Find_any (A0 A : Option Addr) (n0 c0 c : Nat) (mn : Int) (l : List Fun) (s t : ByteArray) (w : World) (hl : l.length ≤ 9223372036854775807) (hs : Sl Lay.fun w A l) :
    Calls Tryz.prog 40 #[.agg #[.slice A0 n0 c0, .slice A l.length c, .int .i64 mn], .string s, .string t] w fun e w' => e = .returned (.int .i64 (findU l s t)) ∧ Below w.heap.size w w' := by
  go_enter Tryz.func40, Tryz.ntmps40
  go_wp2_with fail
  refine (refFind_any A0 A n0 c0 c mn l s t _ hl (hs.mono (by exact (by repeat (first | assumption | exact Below.refl _ _ | apply bw_alloc | apply bw_drew | apply bw_drewN | apply bw_later | apply bw_step))))).mono ?_
  rintro e w1 ⟨rfl, hb1⟩
  go_wp2_with fail
  go_ret
  exact ⟨rfl, below_step (by exact (by repeat (first | assumption | exact Below.refl _ _ | apply bw_alloc | apply bw_drew | apply bw_drewN | apply bw_later | apply bw_step))) hb1⟩
end Go.Proofs.YtmhdambkchlilaaGreatDoor
namespace Go.Proofs.YtmhdambkchlilaaGreatDoor
open Go.RowKit
set_option linter.unusedVariables false

def subsR (cs : List Cls) (s : ByteArray) : List ByteArray := putAllS ((cs.map (·.name)).filter fun l => hasS (supersL cs l) s)
def tgtR (cs : List Cls) (m l : ByteArray) : List ByteArray := if 0 ≤ (lookS cs l m).1 then [nmAt cs (lookS cs l m).1] else []
def targetsR (cs : List Cls) (s m : ByteArray) : List ByteArray := putAllS ((subsR cs s).flatMap (tgtR cs m))
theorem hasS_fnd {cs : List Cls} {l s : ByteArray} : hasS (supersL cs l) s = true ↔ fnd cs s ∈ (chR cs (fnd cs l)).1 := by
  rw [hasS_iff]
  unfold supersL
  rw [List.mem_map]
  constructor
  · rintro ⟨j, hj, rfl⟩
    rw [chR_fix cs l j hj]
    exact hj
  · intro h
    have := (chR_bd (cs := cs) (fnd_bd cs l).2).1 _ h
    exact ⟨_, h, nm_fndG this.1⟩
theorem fnd_mem {cs : List Cls} {i : Nat} (hi : i < cs.length) : 0 ≤ fnd cs cs[i].name := by
  unfold fnd idxI
  cases hq : cs.findIdx? (isCls cs[i].name) with
  | none =>
    rw [List.findIdx?_eq_none_iff] at hq
    have := hq cs[i] (List.getElem_mem hi)
    unfold isCls at this
    rw [eqS_iff.2 rfl] at this
    cases this
  | some k => simp
theorem mem_putAllS {l : List ByteArray} {x : ByteArray} : x ∈ putAllS l ↔ x ∈ l := by rw [putAllS_eq]; exact (ascS_spec l).2 x
theorem subsR_mem {cs : List Cls} {s l : ByteArray} : l ∈ subsR cs s ↔ ∃ x ∈ subsI cs s, nmAt cs x = l ∧ fnd cs l = x := by
  unfold subsR
  rw [mem_putAllS, List.mem_filter, List.mem_map]
  constructor
  · rintro ⟨⟨c, hc, rfl⟩, h⟩
    obtain ⟨i, hi, rfl⟩ := List.getElem_of_mem hc
    rw [hasS_fnd] at h
    have h0 : 0 ≤ fnd cs cs[i].name := fnd_mem hi
    have hb := (fnd_bd cs cs[i].name).2
    exact ⟨fnd cs cs[i].name, (subs_iffG cs s _).2 ⟨⟨h0, hb⟩, by rw [nm_fndG h0], h⟩, nm_fndG h0, rfl⟩
  · rintro ⟨x, hx, rfl, hf⟩
    obtain ⟨⟨h0, h1⟩, h2, h3⟩ := (subs_iffG cs s x).1 hx
    refine ⟨⟨cs[x.toNat]'(by omega), List.getElem_mem _, ?_⟩, hasS_fnd.2 (by rw [h2]; exact h3)⟩
    obtain ⟨n, rfl⟩ : ∃ n : Nat, x = n := ⟨x.toNat, by omega⟩
    rw [nmAt_nat (by omega)]
    rfl
theorem targetsR_eq (cs : List Cls) (s m : ByteArray) : targetsR cs s m = targetsL cs s m := by
  unfold targetsR targetsL
  rw [putAllS_eq]
  refine AscS.ext (ascS_spec _).1 (ascS_spec _).1 fun y => ?_
  rw [(ascS_spec _).2, (ascS_spec _).2, List.mem_flatMap, List.mem_flatMap]
  constructor
  · rintro ⟨l, hl, hy⟩
    obtain ⟨x, hx, rfl, hf⟩ := subsR_mem.1 hl
    refine ⟨x, hx, ?_⟩
    unfold tgtR lookS at hy
    rw [hf] at hy
    exact hy
  · rintro ⟨x, hx, hy⟩
    have h2 := ((subs_iffG cs s x).1 hx).2.1
    refine ⟨nmAt cs x, subsR_mem.2 ⟨x, hx, rfl, h2⟩, ?_⟩
    unfold tgtR lookS
    rw [h2]
    exact hy
/-- The program's list: found, sorted, without repetitions. -/
def foundL (fs : List Fun) (m : ByteArray) (l : List ByteArray) : List Int := (l.map fun c => findU fs c m).filter fun i => decide (0 ≤ i)
def pfI (fs : List Fun) (m : ByteArray) (l : List ByteArray) : List Int := ascI (foundL fs m l)
/-- The answer's list. -/
def atR (fs : List Fun) (m : ByteArray) (l : List ByteArray) (i : Nat) : List Int := (l.filter fun c => decide (findU fs c m = i)).map fun _ => (i : Int)
def pfR (fs : List Fun) (m : ByteArray) (l : List ByteArray) : List Int := (List.range fs.length).flatMap (atR fs m l)
theorem findU_cls {fs : List Fun} {c m : ByteArray} {i : Nat} (h : findU fs c m = i) : ∃ hi : i < fs.length, fs[i].cls = c := by
  unfold findU idxI at h
  cases hq : fs.findIdx? (isFun c m) with
  | none => rw [hq] at h; simp at h
  | some k =>
    rw [hq] at h
    obtain ⟨hi, h1, _⟩ := List.findIdx?_eq_some_iff_getElem.1 hq
    have hk : k = i := by simp only at h; omega
    subst hk
    refine ⟨hi, ?_⟩
    unfold isFun at h1
    rw [Bool.and_eq_true] at h1
    exact eqS_iff.1 h1.1
theorem AscS.nodup {l : List ByteArray} (h : AscS l) : l.Nodup := h.imp fun {a b} hab e => by
  subst e
  exact ltL_irrefl _ hab
theorem pfR_eq {fs : List Fun} {m : ByteArray} {l : List ByteArray} (h : AscS l) : pfR fs m l = pfI fs m l := by
  unfold pfI
  refine asc_ext ?_ (ascI_spec _).1 fun x => ?_
  · unfold pfR
    rw [List.pairwise_flatMap]
    refine ⟨fun i hi => ?_, ?_⟩
    · have hle : (l.filter fun c => decide (findU fs c m = i)).length ≤ 1 := by
        have hn := h.nodup.filter (fun c => decide (findU fs c m = i))
        generalize hq : (l.filter fun c => decide (findU fs c m = i)) = q at hn ⊢
        match q, hn, hq with
        | [], _, _ => simp
        | [a], _, _ => simp
        | a :: b :: r, hn, hq =>
          exfalso
          have ha : a ∈ l.filter fun c => decide (findU fs c m = i) := by rw [hq]; simp
          have hb : b ∈ l.filter fun c => decide (findU fs c m = i) := by rw [hq]; simp
          rw [List.mem_filter, decide_eq_true_eq] at ha hb
          obtain ⟨_, e1⟩ := findU_cls ha.2
          obtain ⟨_, e2⟩ := findU_cls hb.2
          rw [List.pairwise_cons] at hn
          exact hn.1 b (by simp) (by rw [← e1, e2])
      unfold atR
      match (l.filter fun c => decide (findU fs c m = i)), hle with
      | [], _ => simp
      | [a], _ => simp
      | a :: b :: r, hle => simp at hle
    · refine List.pairwise_lt_range.imp fun {a b} hab => ?_
      intro x hx y hy
      unfold atR at hx hy
      obtain ⟨_, _, rfl⟩ := List.mem_map.1 hx
      obtain ⟨_, _, rfl⟩ := List.mem_map.1 hy
      omega
  · rw [(ascI_spec _).2]
    unfold pfR foundL
    rw [List.mem_flatMap, List.mem_filter, List.mem_map]
    constructor
    · rintro ⟨i, hi, hx⟩
      unfold atR at hx
      obtain ⟨c, hc, rfl⟩ := List.mem_map.1 hx
      rw [List.mem_filter, decide_eq_true_eq] at hc
      exact ⟨⟨c, hc.1, hc.2⟩, by simp⟩
    · rintro ⟨⟨c, hc, rfl⟩, h0⟩
      rw [decide_eq_true_eq] at h0
      obtain ⟨i, hi⟩ : ∃ i : Nat, findU fs c m = i := ⟨(findU fs c m).toNat, by omega⟩
      obtain ⟨hl, _⟩ := findU_cls hi
      refine ⟨i, List.mem_range.2 hl, ?_⟩
      unfold atR
      rw [hi]
      exact List.mem_map.2 ⟨c, List.mem_filter.2 ⟨hc, by rw [hi]; simp⟩, rfl⟩
/-- What the answer's Dispatch finds is among them. -/
theorem pf_has {cs : List Cls} {fs : List Fun} {s m l : ByteArray} (hl : l ∈ subsR cs s) (hok : 0 ≤ (lookS cs l m).1) (h0 : 0 ≤ findU fs (nmAt cs (lookS cs l m).1) m) : findU fs (nmAt cs (lookS cs l m).1) m ∈ pfI fs m (targetsL cs s m) := by
  unfold pfI foundL
  rw [(ascI_spec _).2, List.mem_filter, List.mem_map]
  refine ⟨⟨_, ?_, rfl⟩, by simpa using h0⟩
  rw [← targetsR_eq]
  unfold targetsR
  rw [mem_putAllS, List.mem_flatMap]
  exact ⟨l, hl, by unfold tgtR; rw [if_pos hok]; simp⟩
end Go.Proofs.YtmhdambkchlilaaGreatDoor
namespace Go.Proofs.YtmhdambkchlilaaGreatDoor
open Go.RowKit
set_option linter.unusedVariables false

/-- The answer's letters: an l for the arguments. -/
def formRL : List (List UInt8) := [[], [100, 110], [100], [100, 97], [100, 97, 111, 98], [100], [100, 99], [100, 97, 109], [97, 109, 98], [100, 97, 99, 109, 108], [100, 99, 109, 108], [97, 103], [103], [97], [97], [100, 99], [100, 97, 110]]
def hasR (op : Int) (c : UInt8) : Bool := knownB op && ((formRL[op.toNat]?).getD []).any fun s => s == c || c == 110 && s == 111
theorem known_nat {op : Int} (h : knownB op = true) : ∃ k : Nat, op = k ∧ k < 17 := by
  unfold knownB at h
  simp only [Bool.and_eq_true, decide_eq_true_eq] at h
  exact ⟨op.toNat, by omega, by omega⟩
theorem formRL_has : ∀ k, k < 17 → ∀ c ∈ [(100 : UInt8), 97, 98, 99, 109, 103], ((formRL[k]?).getD []).any (fun s => s == c || c == 110 && s == 111) = ((formL[k]?).getD []).contains c := by decide
theorem formRL_n : ∀ k, k < 17 → ((formRL[k]?).getD []).any (fun s => s == 110 || (110 : UInt8) == 110 && s == 111) = (((formL[k]?).getD []).contains 110 || ((formL[k]?).getD []).contains 111) := by decide
theorem formRL_l : ∀ k, k < 17 → ((formRL[k]?).getD []).any (fun s => s == 108 || (108 : UInt8) == 110 && s == 111) = ((formL[k]?).getD []).contains 42 := by decide
theorem usesB_at {k : Nat} (hk : k < 17) (c : Int) : usesB (k : Int) c = ((formL[k]?).getD []).contains c.toNat.toUInt8 := by
  unfold usesB knownB formOf
  rw [decide_eq_true (show (0 : Int) ≤ k by omega), decide_eq_true (show (k : Int) < 17 by omega), Int.toNat_natCast]
  rfl
theorem hasR_at {k : Nat} (hk : k < 17) (c : UInt8) : hasR (k : Int) c = ((formRL[k]?).getD []).any fun s => s == c || c == 110 && s == 111 := by
  unfold hasR knownB
  rw [decide_eq_true (show (0 : Int) ≤ k by omega), decide_eq_true (show (k : Int) < 17 by omega), Int.toNat_natCast]
  rfl
theorem hasR_no {op : Int} (h : knownB op = false) (c : UInt8) : hasR op c = false := by unfold hasR; rw [h]; rfl
theorem usesB_no {op : Int} (h : knownB op = false) (c : Int) : usesB op c = false := by unfold usesB; rw [h]; rfl
theorem hasR_eq (op : Int) : hasR op 100 = usesB op 100 ∧ hasR op 97 = usesB op 97 ∧ hasR op 98 = usesB op 98 ∧ hasR op 99 = usesB op 99 ∧ hasR op 109 = usesB op 109 ∧ hasR op 103 = usesB op 103 ∧ hasR op 110 = (usesB op 110 || usesB op 111) ∧ hasR op 108 = usesB op 42 := by
  cases hk : knownB op with
  | false => simp [hasR_no hk, usesB_no hk]
  | true =>
    obtain ⟨k, rfl, hl⟩ := known_nat hk
    simp only [hasR_at hl, usesB_at hl]
    have h := formRL_has k hl
    exact ⟨h 100 (by simp), h 97 (by simp), h 98 (by simp), h 99 (by simp), h 109 (by simp), h 103 (by simp), formRL_n k hl, formRL_l k hl⟩
/-- Calls are the operations with arguments. -/
theorem uses_args (op : Int) : usesB op 42 = (decide (op = 9) || decide (op = 10)) := by
  cases hk : knownB op with
  | false =>
    rw [usesB_no hk]
    unfold knownB at hk
    have h9 : ¬ op = 9 := fun e => by subst e; cases hk
    have h10 : ¬ op = 10 := fun e => by subst e; cases hk
    rw [decide_eq_false h9, decide_eq_false h10]
    rfl
  | true =>
    obtain ⟨k, rfl, hl⟩ := known_nat hk
    rw [usesB_at hl]
    have : ∀ k : Nat, k < 17 → ((formL[k]?).getD []).contains (42 : Int).toNat.toUInt8 = (decide ((k : Int) = 9) || decide ((k : Int) = 10)) := by decide
    exact this k hl
/-- What an instruction reads. -/
def usesL (x : Ins) : List Int := (if usesB x.op 97 = true ∧ (¬ x.op = 13 ∨ ¬ x.a = -1) then [x.a] else []) ++ (if usesB x.op 98 = true then [x.b] else []) ++ (if usesB x.op 42 = true then x.args else [])
def hndR (code : List Ins) (z : Int) : Bool := decide (z = -1) || decide (0 ≤ z) && (decide (z < (code.length : Int)) && isCat code z)
theorem hndR_eq (code : List Ins) (z : Int) : hndR code z = (decide (z = -1) || isCat code z) := by
  unfold hndR
  by_cases h0 : 0 ≤ z
  · by_cases h1 : z < (code.length : Int)
    · rw [decide_eq_true h0, decide_eq_true h1]; simp
    · rw [isCat_out (fun h => h1 h.2)]; simp
  · rw [isCat_out (fun h => h0 h.1)]; simp
def rangesR (n : Nat) (code : List Ins) (x : Ins) : Bool :=
  !(usesB x.op 100 && !varB n x.dst && (!(decide (x.op = 9) || decide (x.op = 10)) || decide (¬ x.dst = -1))) && ((usesL x).all (varB n) && (!(usesB x.op 103 && (decide (x.jmp < 0) || decide ((code.length : Int) ≤ x.jmp))) && hndR code x.hnd))
theorem rangesR_eq {n : Nat} {code : List Ins} {x : Ins} (hz : zeroB x = true) : rangesR n code x = rangeB n code x := by
  have ha : usesB x.op 42 = false → x.args = [] := fun h => by
    unfold zeroB at hz
    rw [h] at hz
    simp only [Bool.and_eq_true, Bool.false_or] at hz
    have := eq_of_beq hz.1.2
    exact List.length_eq_zero_iff.1 (by omega)
  unfold rangesR rangeB
  rw [hndR_eq, ← uses_args]
  unfold usesL
  rw [List.all_append, List.all_append]
  have e1 : (if usesB x.op 97 = true ∧ (¬ x.op = 13 ∨ ¬ x.a = -1) then [x.a] else []).all (varB n) = !(usesB x.op 97 && !varB n x.a && (decide (x.op ≠ 13) || decide (x.a ≠ -1))) := by
    cases h1 : usesB x.op 97 with
    | false => simp
    | true =>
      by_cases h2 : ¬ x.op = 13 ∨ ¬ x.a = -1
      · rw [if_pos ⟨rfl, h2⟩]
        have : (decide (x.op ≠ 13) || decide (x.a ≠ -1)) = true := by rcases h2 with h | h <;> simp [h]
        rw [this]
        simp
      · rw [if_neg (fun h => h2 h.2)]
        have : (decide (x.op ≠ 13) || decide (x.a ≠ -1)) = false := by
          have h3 : x.op = 13 := Classical.byContradiction fun h => h2 (Or.inl h)
          have h4 : x.a = -1 := Classical.byContradiction fun h => h2 (Or.inr h)
          simp [h3, h4]
        rw [this]
        simp
  have e2 : (if usesB x.op 98 = true then [x.b] else []).all (varB n) = !(usesB x.op 98 && !varB n x.b) := by
    cases h1 : usesB x.op 98 with
    | false => simp
    | true => simp
  have e3 : (if usesB x.op 42 = true then x.args else []).all (varB n) = x.args.all (varB n) := by
    cases h1 : usesB x.op 42 with
    | false => rw [ha h1]; simp
    | true => simp
  rw [e1, e2, e3]
  simp [Bool.and_assoc]
/-- Whether control leaves the code or enters a handler. -/
def leavesR (code : List Ins) (i : Nat) (x : Ins) : Bool :=
  !(decide (x.op = 12) || (decide (x.op = 13) || decide (x.op = 14))) && (decide ((i : Int) + 1 = code.length) || isCat code ((i : Int) + 1)) || (usesB x.op 103 && isCat code x.jmp || decide (i = 0) && decide (x.op = 15))
theorem leavesR_eq (code : List Ins) (i : Nat) (x : Ins) : leavesR code i x = !ctlB code i x := by
  unfold leavesR ctlB
  have e1 : decide ((i : Int) + 1 = code.length) = decide ((i : Int) = code.length - 1) := by
    by_cases h : (i : Int) + 1 = code.length
    · rw [decide_eq_true h, decide_eq_true (by omega)]
    · rw [decide_eq_false h, decide_eq_false (by omega)]
  have e2 : decide (0 < i) = !decide (i = 0) := by
    by_cases h : i = 0
    · simp [h]
    · rw [decide_eq_false h, decide_eq_true (by omega)]; rfl
  rw [e1, e2]
  have e3 : decide (x.op ≠ 15) = !decide (x.op = 15) := by by_cases h : x.op = 15 <;> simp [h]
  rw [e3]
  generalize decide (x.op = 12) = a
  generalize decide (x.op = 13) = b
  generalize decide (x.op = 14) = c
  generalize decide ((i : Int) = code.length - 1) = d
  generalize isCat code ((i : Int) + 1) = e
  generalize usesB x.op 103 = f
  generalize isCat code x.jmp = g
  generalize decide (i = 0) = h
  generalize decide (x.op = 15) = j
  revert a b c d e f g h j
  decide
/-- A natural number in digits. -/
def natR (l : List UInt8) : Bool := l.all (fun x => decide (48 ≤ x.toNat) && decide (x.toNat ≤ 57)) && (decide (l.length = 1) || decide (1 < l.length) && !(l.headD 0 == 48))
theorem natR_eq (l : List UInt8) : natR l = natL l := by
  cases l with
  | nil => rfl
  | cons c r =>
    unfold natR natL
    cases r with
    | nil => simp
    | cons d t =>
      simp only [List.length_cons, List.headD_cons, List.isEmpty_cons, Bool.not_false, Bool.and_true]
      rw [decide_eq_false (show ¬ t.length + 1 + 1 = 1 by omega), decide_eq_true (show 1 < t.length + 1 + 1 by omega), Bool.false_or, Bool.true_and, Bool.and_comm]
end Go.Proofs.YtmhdambkchlilaaGreatDoor
