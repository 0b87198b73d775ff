/-
  Joined (wip/merge.py): GraP, GraQ, Wi, Que.
-/
import Derived.Test.YthlpndgfphjlkaaLib
import Derived.Test.YthlpndgfphjlkaaNest
import Derived.Deep.RegionLaw

namespace Go.Proofs.Ythlpndgfphjlkaa
set_option linter.unusedVariables false

/-- A path of the graph from s to the node that avoids d. -/
inductive RA (E : List (Int × Int)) (s : Nat) (d : Option Nat) : Nat → Prop
  | root : d ≠ some s → RA E s d s
  | step {p k : Nat} : RA E s d p → ((p : Int), (k : Int)) ∈ E → d ≠ some k → RA E s d k
theorem RA.none {E : List (Int × Int)} {s : Nat} {d : Option Nat} {k : Nat} (h : RA E s d k) : RA E s none k := by
  induction h with
  | root => exact .root (by simp)
  | step _ h2 _ ih => exact .step ih h2 (by simp)
/-- One visit. -/
def visitS (seen : List Bool) (L : List Nat) (x : Nat) : List Bool × List Nat := if seen.getD x true = true then (seen, L) else (seen.set x true, L ++ [x])
theorem count_set {x : Nat} : ∀ {seen : List Bool}, seen[x]? = some false → (seen.set x true).count true = seen.count true + 1 := by
  induction x with
  | zero =>
    intro seen h
    cases seen with
    | nil => simp at h
    | cons b r =>
      simp at h
      subst h
      simp
  | succ x ih =>
    intro seen h
    cases seen with
    | nil => simp at h
    | cons b r =>
      simp at h
      have := ih h
      simp only [List.set_cons_succ, List.count_cons, this]
      omega
structure ReachI (E : List (Int × Int)) (n s i : Nat) (seen : List Bool) (L : List Nat) : Prop where
  len : seen.length = n
  cnt : L.length = seen.count true
  mem : ∀ x, x ∈ L ↔ seen[x]? = some true
  root : s ∈ L
  from_ : ∀ x ∈ L, RA E s none x
  il : i ≤ L.length
  cl : ∀ j (hj : j < L.length), j < i → ∀ y : Nat, ((L[j] : Int), (y : Int)) ∈ E → y ∈ L
section
variable {E : List (Int × Int)} {n s i : Nat} {seen : List Bool} {L : List Nat}
theorem ReachI.le (h : ReachI E n s i seen L) : L.length ≤ n := by rw [h.cnt, ← h.len]; exact List.count_le_length
theorem ReachI.rng (h : ReachI E n s i seen L) {x : Nat} (hx : x ∈ L) : x < n := by
  have := (h.mem x).1 hx
  rw [← h.len]
  exact (List.getElem?_eq_some_iff.1 this).1
theorem visitS_old {x : Nat} (h : seen[x]? = some true) : visitS seen L x = (seen, L) := by unfold visitS; rw [List.getD_eq_getElem?_getD, h]; rfl
theorem visitS_new {x : Nat} (h : seen[x]? = some false) : visitS seen L x = (seen.set x true, L ++ [x]) := by unfold visitS; rw [List.getD_eq_getElem?_getD, h]; rfl
theorem seen_cases {x : Nat} (h : x < seen.length) : seen[x]? = some true ∨ seen[x]? = some false := by
  rw [List.getElem?_eq_getElem h]
  cases seen[x] <;> simp
theorem ReachI.visit (h : ReachI E n s i seen L) {x : Nat} (hx : x < n) (hr : RA E s none x) :
    ReachI E n s i (visitS seen L x).1 (visitS seen L x).2 ∧ x ∈ (visitS seen L x).2 ∧ ∃ t, (visitS seen L x).2 = L ++ t := by
  rcases seen_cases (seen := seen) (x := x) (by rw [h.len]; exact hx) with hs | hs
  · rw [visitS_old hs]
    exact ⟨h, (h.mem x).2 hs, [], by simp⟩
  · rw [visitS_new hs]
    have hxl : x < seen.length := (List.getElem?_eq_some_iff.1 hs).1
    refine ⟨⟨by rw [List.length_set]; exact h.len, ?_, fun y => ?_, List.mem_append_left _ h.root, fun y hy => ?_, ?_, fun j hj hji y hy => ?_⟩, by simp, [x], rfl⟩
    · rw [count_set hs, List.length_append, h.cnt]; rfl
    · rw [List.mem_append, h.mem y, List.getElem?_set]
      by_cases e : x = y
      · subst e; simp [hxl]
      · rw [if_neg e]
        simp
        intro e2; exact absurd e2.symm e
    · rcases List.mem_append.1 hy with hy | hy
      · exact h.from_ y hy
      · simp at hy; subst hy; exact hr
    · rw [List.length_append]; have := h.il; omega
    · have hjl : j < L.length := by have := h.il; omega
      rw [List.getElem_append_left hjl] at hy
      exact List.mem_append_left _ (h.cl j hjl hji y hy)
theorem ReachI.next (h : ReachI E n s i seen L) (hi : i < L.length) (hy : ∀ y : Nat, ((L[i] : Int), (y : Int)) ∈ E → y ∈ L) : ReachI E n s (i + 1) seen L :=
  ⟨h.len, h.cnt, h.mem, h.root, h.from_, hi, fun j hj hji y hE => by
    by_cases e : j = i
    · subst e; exact hy y hE
    · exact h.cl j hj (by omega) y hE⟩
theorem ReachI.done (h : ReachI E n s L.length seen L) (x : Nat) : x ∈ L ↔ RA E s none x := by
  constructor
  · exact h.from_ x
  · intro hr
    induction hr with
    | root => exact h.root
    | step _ hE _ ih =>
      rename_i p k _ _
      obtain ⟨j, hj, rfl⟩ := List.getElem_of_mem ih
      exact h.cl j hj hj k hE
theorem ReachI.start (hs : s < n) : ReachI E n s 0 (visitS (List.replicate n false) [] s).1 (visitS (List.replicate n false) [] s).2 := by
  have h0 : (List.replicate n false)[s]? = some false := by rw [List.getElem?_replicate, if_pos hs]
  rw [visitS_new h0]
  refine ⟨by simp, ?_, fun x => ?_, by simp, fun x hx => ?_, Nat.zero_le _, fun j hj hji => by omega⟩
  · rw [count_set h0]; simp [List.count_replicate]
  · rw [List.getElem?_set]
    by_cases e : s = x
    · subst e; simp [hs]
    · rw [if_neg e, List.getElem?_replicate]
      simp
      exact fun e2 => e e2.symm
  · simp at hx; subst hx; exact .root (by simp)
end
end Go.Proofs.Ythlpndgfphjlkaa

namespace Go.Proofs.Ythlpndgfphjlkaa
set_option linter.unusedVariables false

/-- What a visit of v appends (K) and what it has met. -/
structure DfsV (E : List (Int × Int)) (v : Nat) (seen : List Bool) (K : List Nat) (seen' : List Bool) : Prop where
  len : seen'.length = seen.length
  mem : ∀ x, seen'[x]? = some true ↔ seen[x]? = some true ∨ x ∈ K
  dis : ∀ x ∈ K, seen[x]? = some false
  nd : K.Nodup
  last : ∃ M, K = M ++ [v]
  fw : ∀ (i x : Nat), K[i]? = some x → i + 1 = K.length ∨ ∃ j y : Nat, i < j ∧ K[j]? = some y ∧ ((y : Int), (x : Int)) ∈ E
  cl : ∀ x ∈ K, ∀ y : Nat, ((x : Int), (y : Int)) ∈ E → seen'[y]? = some true
  cnt : seen.count true + K.length = seen'.count true
/-- Within a visit of v: the successors 'pre' have been seen to; M has been appended. -/
structure DfsM (E : List (Int × Int)) (v : Nat) (seen : List Bool) (pre : List Int) (M : List Nat) (seen' : List Bool) : Prop where
  len : seen'.length = seen.length
  mem : ∀ x, seen'[x]? = some true ↔ seen[x]? = some true ∨ x ∈ M
  dis : ∀ x ∈ M, seen[x]? = some false
  nd : M.Nodup
  fw : ∀ (i x : Nat), M[i]? = some x → ((v : Int), (x : Int)) ∈ E ∨ ∃ j y : Nat, i < j ∧ M[j]? = some y ∧ ((y : Int), (x : Int)) ∈ E
  cl : ∀ x ∈ M, ∀ y : Nat, ((x : Int), (y : Int)) ∈ E → seen'[y]? = some true
  cnt : seen.count true + M.length = seen'.count true
  suc : ∀ y : Nat, (y : Int) ∈ pre → seen'[y]? = some true
section
variable {E : List (Int × Int)} {v w : Nat} {seen seen1 seen2 : List Bool} {pre : List Int} {M K : List Nat}
theorem DfsM.init : DfsM E v seen [] [] seen :=
  ⟨rfl, fun x => by simp, fun x h => by simp at h, List.nodup_nil, fun i x h => by simp at h, fun x h => by simp at h, rfl, fun y h => by simp at h⟩
theorem DfsM.old (h : DfsM E v seen pre M seen1) (hw : seen1[w]? = some true) : DfsM E v seen (pre ++ [(w : Int)]) M seen1 :=
  ⟨h.len, h.mem, h.dis, h.nd, h.fw, h.cl, h.cnt, fun y hy => by
    rcases List.mem_append.1 hy with hy | hy
    · exact h.suc y hy
    · simp at hy
      have : y = w := by omega
      subst this; exact hw⟩
theorem DfsM.new (h : DfsM E v seen pre M seen1) (hE : ((v : Int), (w : Int)) ∈ E) (k : DfsV E w seen1 K seen2) : DfsM E v seen (pre ++ [(w : Int)]) (M ++ K) seen2 := by
  obtain ⟨K', hK'⟩ := k.last
  have up : ∀ y : Nat, seen1[y]? = some true → seen2[y]? = some true := fun y hy => (k.mem y).2 (Or.inl hy)
  refine ⟨k.len.trans h.len, fun x => ?_, fun x hx => ?_, ?_, fun i x hx => ?_, fun x hx y hy => ?_, ?_, fun y hy => ?_⟩
  · rw [k.mem, h.mem, List.mem_append, or_assoc]
  · rcases List.mem_append.1 hx with hx | hx
    · exact h.dis x hx
    · have h1 := k.dis x hx
      have hl : x < seen.length := by rw [← h.len]; exact (List.getElem?_eq_some_iff.1 h1).1
      rcases seen_cases hl with h2 | h2
      · have := (h.mem x).2 (Or.inl h2)
        rw [h1] at this; simp at this
      · exact h2
  · rw [List.nodup_append]
    refine ⟨h.nd, k.nd, fun a ha b hb e => ?_⟩
    subst e
    have h1 := k.dis a hb
    have h2 := (h.mem a).2 (Or.inr ha)
    rw [h1] at h2; simp at h2
  · rcases Nat.lt_or_ge i M.length with hi | hi
    · rw [List.getElem?_append_left hi] at hx
      rcases h.fw i x hx with h1 | ⟨j, y, hj, hy, h1⟩
      · exact Or.inl h1
      · refine Or.inr ⟨j, y, hj, ?_, h1⟩
        rw [List.getElem?_append_left (List.getElem?_eq_some_iff.1 hy).1]
        exact hy
    · rw [List.getElem?_append_right hi] at hx
      rcases k.fw _ x hx with h1 | ⟨j, y, hj, hy, h1⟩
      · left
        have e : x = w := by
          rw [hK'] at hx h1
          simp at h1
          rw [List.getElem?_append_right (by omega)] at hx
          rw [show i - M.length - K'.length = 0 by omega] at hx
          simpa using hx.symm
        rw [e]; exact hE
      · refine Or.inr ⟨M.length + j, y, by omega, ?_, h1⟩
        rw [List.getElem?_append_right (by omega), show M.length + j - M.length = j by omega]
        exact hy
  · rcases List.mem_append.1 hx with hx | hx
    · exact up y (h.cl x hx y hy)
    · exact k.cl x hx y hy
  · rw [← k.cnt, ← h.cnt, List.length_append]; omega
  · rcases List.mem_append.1 hy with hy | hy
    · exact up y (h.suc y hy)
    · simp at hy
      have : y = w := by omega
      subst this
      exact (k.mem y).2 (Or.inr (by rw [hK']; simp))
theorem DfsM.done (h : DfsM E v (seen.set v true) pre M seen1) (hv : seen[v]? = some false) (hp : ∀ y : Nat, ((v : Int), (y : Int)) ∈ E → (y : Int) ∈ pre) : DfsV E v seen (M ++ [v]) seen1 := by
  have hvl : v < seen.length := (List.getElem?_eq_some_iff.1 hv).1
  have hset : ∀ x, (seen.set v true)[x]? = some true ↔ seen[x]? = some true ∨ x = v := fun x => by
    rw [List.getElem?_set]
    by_cases e : v = x
    · subst e; simp [hvl]
    · rw [if_neg e]
      constructor
      · exact Or.inl
      · rintro (h | h)
        · exact h
        · exact absurd h.symm e
  have hvM : v ∉ M := fun hm => by
    have := h.dis v hm
    rw [List.getElem?_set, if_pos rfl, if_pos hvl] at this
    simp at this
  refine ⟨by rw [h.len, List.length_set], fun x => ?_, fun x hx => ?_, ?_, ⟨M, rfl⟩, fun i x hx => ?_, fun x hx y hy => ?_, ?_⟩
  · rw [h.mem, hset, List.mem_append]; simp only [List.mem_singleton]
    constructor
    · rintro ((h | h) | h)
      · exact Or.inl h
      · exact Or.inr (Or.inr h)
      · exact Or.inr (Or.inl h)
    · rintro (h | h | h)
      · exact Or.inl (Or.inl h)
      · exact Or.inr h
      · exact Or.inl (Or.inr h)
  · rcases List.mem_append.1 hx with hx | hx
    · have h1 := h.dis x hx
      rw [List.getElem?_set] at h1
      by_cases e : v = x
      · rw [if_pos e] at h1
        split at h1 <;> simp at h1
      · rw [if_neg e] at h1
        exact h1
    · simp at hx; subst hx; exact hv
  · rw [List.nodup_append]
    refine ⟨h.nd, by simp, fun a ha b hb e => ?_⟩
    simp at hb
    subst e hb
    exact hvM ha
  · rcases Nat.lt_or_ge i M.length with hi | hi
    · right
      rw [List.getElem?_append_left hi] at hx
      rcases h.fw i x hx with h1 | ⟨j, y, hj, hy, h1⟩
      · exact ⟨M.length, v, hi, by simp, h1⟩
      · refine ⟨j, y, hj, ?_, h1⟩
        rw [List.getElem?_append_left (List.getElem?_eq_some_iff.1 hy).1]
        exact hy
    · left
      have := (List.getElem?_eq_some_iff.1 hx).1
      simp at *
      omega
  · rcases List.mem_append.1 hx with hx | hx
    · exact h.cl x hx y hy
    · simp at hx; subst hx; exact h.suc y (hp y hy)
  · rw [← h.cnt, count_set hv, List.length_append]; simp; omega
/-- The postorder of a search from s. -/
structure PostOk (E : List (Int × Int)) (n s : Nat) (post : List Nat) : Prop where
  nd : post.Nodup
  last : ∃ M, post = M ++ [s]
  rng : ∀ x ∈ post, x < n
  fw : ∀ (i x : Nat), post[i]? = some x → i + 1 = post.length ∨ ∃ j y : Nat, i < j ∧ post[j]? = some y ∧ ((y : Int), (x : Int)) ∈ E
  mem : ∀ x, x ∈ post ↔ RA E s none x
theorem DfsV.post {n s : Nat} (h : DfsV E s (List.replicate n false) K seen1) : PostOk E n s K := by
  have hm : ∀ x, seen1[x]? = some true ↔ x ∈ K := fun x => by
    rw [h.mem, List.getElem?_replicate]
    constructor
    · rintro (h | h)
      · split at h <;> simp at h
      · exact h
    · exact Or.inr
  obtain ⟨M, hM⟩ := h.last
  refine ⟨h.nd, h.last, fun x hx => ?_, h.fw, fun x => ⟨fun hx => ?_, fun hr => ?_⟩⟩
  · have := (List.getElem?_eq_some_iff.1 (h.dis x hx)).1
    simpa using this
  · have key : ∀ (d i x : Nat), K.length - i ≤ d → K[i]? = some x → RA E s none x := by
      intro d
      induction d with
      | zero => intro i x hd hx; have := (List.getElem?_eq_some_iff.1 hx).1; omega
      | succ d ih =>
        intro i x hd hx
        rcases h.fw i x hx with h1 | ⟨j, y, hj, hy, h1⟩
        · rw [hM] at hx h1
          simp at h1
          rw [List.getElem?_append_right (by omega), show i - M.length = 0 by omega] at hx
          simp at hx
          subst hx
          exact .root (by simp)
        · exact .step (ih j y (by have := (List.getElem?_eq_some_iff.1 hy).1; omega) hy) h1 (by simp)
    obtain ⟨i, hi, e⟩ := List.getElem_of_mem hx
    exact key _ i x (Nat.le_refl _) (by rw [List.getElem?_eq_getElem hi, e])
  · induction hr with
    | root => rw [hM]; simp
    | step _ h2 _ ih =>
      exact (hm _).1 (h.cl _ ih _ h2)
end
end Go.Proofs.Ythlpndgfphjlkaa

namespace Go.Proofs.Ythlpndgfphjlkaa
set_option linter.unusedVariables false

def falses (seen : List Bool) : Nat := seen.countP fun b => !b
theorem falses_set {x : Nat} : ∀ {seen : List Bool}, seen[x]? = some false → falses (seen.set x true) + 1 = falses seen := by
  induction x with
  | zero =>
    intro seen h
    cases seen with
    | nil => simp at h
    | cons b r => simp at h; subst h; simp [falses]
  | succ x ih =>
    intro seen h
    cases seen with
    | nil => simp at h
    | cons b r =>
      simp at h
      have := ih h
      unfold falses at *
      simp only [List.set_cons_succ, List.countP_cons]
      omega
/-- Between two rounds: the queue holds what has been reached and is yet to be worked on. -/
structure WI (E : List (Int × Int)) (n : Nat) (d : Option Nat) (seen : List Bool) (work : List Nat) : Prop where
  len : seen.length = n + 2
  root : d ≠ some 0 → seen[0]? = some true
  fr : ∀ x, seen[x]? = some true → RA E 0 d x
  wk : ∀ x ∈ work, seen[x]? = some true
  cl : ∀ x, seen[x]? = some true → x ∉ work → ∀ y : Nat, ((x : Int), (y : Int)) ∈ E → d ≠ some y → seen[y]? = some true
/-- Node i is worked on: its successors 'pre' have been seen to. -/
structure WJ (E : List (Int × Int)) (n : Nat) (d : Option Nat) (i : Nat) (pre : List Int) (seen : List Bool) (work : List Nat) : Prop where
  len : seen.length = n + 2
  root : d ≠ some 0 → seen[0]? = some true
  fr : ∀ x, seen[x]? = some true → RA E 0 d x
  wk : ∀ x ∈ work, seen[x]? = some true
  me : seen[i]? = some true
  cl : ∀ x, seen[x]? = some true → x ∉ work → x ≠ i → ∀ y : Nat, ((x : Int), (y : Int)) ∈ E → d ≠ some y → seen[y]? = some true
  pr : ∀ y : Nat, (y : Int) ∈ pre → d ≠ some y → seen[y]? = some true
section
variable {E : List (Int × Int)} {n i : Nat} {d : Option Nat} {seen : List Bool} {work : List Nat} {pre : List Int}
theorem WI.start (h : WI E n d seen (i :: work)) : WJ E n d i [] seen work :=
  ⟨h.len, h.root, h.fr, fun x hx => h.wk x (List.mem_cons_of_mem _ hx), h.wk i List.mem_cons_self, fun x hx hw hi => h.cl x hx (fun hm => by
    rcases List.mem_cons.1 hm with e | hm
    · exact hi e
    · exact hw hm), fun y hy => by simp at hy⟩
theorem WJ.old (h : WJ E n d i pre seen work) {y : Nat} (hy : d ≠ some y → seen[y]? = some true) : WJ E n d i (pre ++ [(y : Int)]) seen work :=
  ⟨h.len, h.root, h.fr, h.wk, h.me, h.cl, fun z hz => by
    rcases List.mem_append.1 hz with hz | hz
    · exact h.pr z hz
    · simp at hz
      obtain rfl : z = y := by omega
      exact hy⟩
theorem set_true {x y : Nat} {seen : List Bool} (hs : seen[y]? = some false) : (seen.set y true)[x]? = some true ↔ seen[x]? = some true ∨ x = y := by
  have hy : y < seen.length := (List.getElem?_eq_some_iff.1 hs).1
  rw [List.getElem?_set]
  by_cases e : y = x
  · subst e; simp [hy]
  · rw [if_neg e]
    exact ⟨Or.inl, fun h => h.elim id (fun h => absurd h.symm e)⟩
theorem WJ.new (h : WJ E n d i pre seen work) {y : Nat} (hE : ((i : Int), (y : Int)) ∈ E) (hd : d ≠ some y) (hs : seen[y]? = some false) : WJ E n d i (pre ++ [(y : Int)]) (seen.set y true) (work ++ [y]) := by
  have hset : ∀ x, (seen.set y true)[x]? = some true ↔ seen[x]? = some true ∨ x = y := fun x => set_true hs
  refine ⟨by rw [List.length_set]; exact h.len, fun hr => (hset _).2 (Or.inl (h.root hr)), fun x hx => ?_, fun x hx => ?_, (hset _).2 (Or.inl h.me), fun x hx hw hi z hE hdz => ?_, fun z hz hdz => ?_⟩
  · rcases (hset x).1 hx with hx | hx
    · exact h.fr x hx
    · subst hx; exact .step (h.fr i h.me) hE hd
  · rcases List.mem_append.1 hx with hx | hx
    · exact (hset _).2 (Or.inl (h.wk x hx))
    · simp at hx; exact (hset _).2 (Or.inr hx)
  · rcases (hset x).1 hx with hx | hx
    · exact (hset _).2 (Or.inl (h.cl x hx (fun hm => hw (List.mem_append_left _ hm)) hi z hE hdz))
    · subst hx; exact absurd (List.mem_append_right _ (by simp)) hw
  · rcases List.mem_append.1 hz with hz | hz
    · exact (hset _).2 (Or.inl (h.pr z hz hdz))
    · simp at hz
      exact (hset _).2 (Or.inr (by omega))
theorem WJ.done (h : WJ E n d i pre seen work) (hp : ∀ y : Nat, ((i : Int), (y : Int)) ∈ E → (y : Int) ∈ pre) : WI E n d seen work :=
  ⟨h.len, h.root, h.fr, h.wk, fun x hx hw z hE hdz => by
    by_cases e : x = i
    · subst e; exact h.pr z (hp z hE) hdz
    · exact h.cl x hx hw e z hE hdz⟩
theorem WI.done (h : WI E n d seen []) (x : Nat) : seen[x]? = some true ↔ RA E 0 d x := by
  constructor
  · exact h.fr x
  · intro hr
    induction hr with
    | root h0 => exact h.root h0
    | step _ hE hd ih => exact h.cl _ ih (by simp) _ hE hd
/-- Nothing to begin with: the node that is avoided is the root. -/
theorem WI.none (hd : d = some 0) : WI E n d (List.replicate (n + 2) false) [] :=
  ⟨by simp, fun h => absurd hd h, fun x hx => by rw [List.getElem?_replicate] at hx; split at hx <;> simp at hx, fun x hx => by simp at hx, fun x hx => by rw [List.getElem?_replicate] at hx; split at hx <;> simp at hx⟩
theorem WI.one (hd : d ≠ some 0) : WI E n d ((List.replicate (n + 2) false).set 0 true) [0] := by
  have h0 : (List.replicate (n + 2) false)[0]? = some false := by simp
  have hset : ∀ x, ((List.replicate (n + 2) false).set 0 true)[x]? = some true ↔ x = 0 := fun x => by
    rw [set_true h0]
    constructor
    · rintro (h | h)
      · rw [List.getElem?_replicate] at h; split at h <;> simp at h
      · exact h
    · exact Or.inr
  refine ⟨by simp, fun _ => (hset 0).2 rfl, fun x hx => ?_, fun x hx => ?_, fun x hx hw => ?_⟩
  · rw [(hset x).1 hx]; exact .root hd
  · simp at hx; exact (hset x).2 hx
  · exact absurd (by rw [(hset x).1 hx]; simp) hw
end
end Go.Proofs.Ythlpndgfphjlkaa

namespace Go.Proofs.Ythlpndgfphjlkaa
open Go.RowKit
set_option linter.unusedVariables false

/-- The slice value v is nil or lies in a block of the call's own, from some place on; it holds the numbers l. -/
def Que (base : Nat) (e : TypeId) (w : World) (v : Value) (l : List Int) : Prop :=
  (v = .slice none 0 0 ∧ l = []) ∨ ∃ g o c cur, v = .slice (some ⟨g, o, none⟩) l.length c ∧ base ≤ g ∧ w.heap[g]? = some (.cells cur e (0, 0)) ∧ l.length ≤ c ∧ c ≤ maxLen ∧ o + c ≤ cur.size ∧ ∀ j x, l[j]? = some x → cur[o + j]? = some (.int .i64 x)
section
variable {base : Nat} {e : TypeId} {w w' : World} {v : Value} {l : List Int}
theorem Que.nil : Que base e w (.slice none 0 0) [] := Or.inl ⟨rfl, rfl⟩
theorem Que.of_own (h : Own cellsInt 1 base e w v l) : Que base e w v l := by
  rcases h.2 with ⟨h1, h2⟩ | ⟨g, cap, cur, hv, hb, hg, hc, hm, hs, ht⟩
  · exact Or.inl ⟨h1, List.eq_nil_of_length_eq_zero h2⟩
  · refine Or.inr ⟨g, 0, cap, cur, hv, hb, hg, hc, hm, by rw [hs]; omega, fun j x hj => ?_⟩
    have hjl : j < l.length := (List.getElem?_eq_some_iff.1 hj).1
    have h1 : (l.flatMap cellsInt)[j]? = some (.int .i64 x) := by
      have := flatMap_at (cells := cellsInt) (size := 1) (fun _ => rfl) l j hjl 0 (.int .i64 x) (by rw [(List.getElem?_eq_some_iff.1 hj).2]; rfl)
      rwa [Nat.mul_one, Nat.add_zero] at this
    rw [← ht, List.getElem?_take] at h1
    rw [Nat.zero_add]
    split at h1
    · simpa using h1
    · cases h1
theorem Que.isSl (h : Que base e w v l) : ∃ A c, v = .slice A l.length c ∧ l.length ≤ c := by
  rcases h with ⟨h1, h2⟩ | ⟨g, o, c, cur, hv, hb, hg, hc, hm, hs, ht⟩
  · subst h2; exact ⟨none, 0, h1, Nat.le_refl _⟩
  · exact ⟨_, c, hv, hc⟩
theorem Que.kept {row : Option Nat} (h : Que base e w v l) (hg : w.grownBy w' row) (hr : ∀ b, row = some b → v.ownBlock ≠ some b) : Que base e w' v l := by
  rcases h with h | ⟨g, o, c, cur, hv, hb, hgg, rest⟩
  · exact Or.inl h
  · refine Or.inr ⟨g, o, c, cur, hv, hb, (hg.block g (Array.getElem?_eq_some_iff.1 hgg).1 fun he => hr g he.symm (by rw [hv]; rfl)).trans hgg, rest⟩
theorem Que.mono (h : Que base e w v l) (hb : Below w.heap.size w w') : Que base e w' v l := h.kept (row := none) ⟨hb.os, hb.tape, hb.output, hb.size, fun k hk _ => hb.block k hk⟩ (fun b he => by cases he)
/-- A row of another element type, or another block, turns: the queue stays. -/
theorem Que.block (h : Que base e w v l) : ∀ b, v.ownBlock = some b → base ≤ b ∧ b < w.heap.size ∧ ∃ cur, w.heap[b]? = some (.cells cur e (0, 0)) := by
  intro b hb
  rcases h with ⟨h1, h2⟩ | ⟨g, o, c, cur, hv, hbb, hg, rest⟩
  · rw [h1] at hb; cases hb
  · rw [hv] at hb
    obtain rfl : g = b := by simpa [Value.ownBlock] using hb
    exact ⟨hbb, (Array.getElem?_eq_some_iff.1 hg).1, cur, hg⟩
theorem Que.ne_box {b : Nat} {cs : List Value} {t : TypeId} (h : Que base e w v l) (hb : Box w b cs t) (hne : e ≠ t) : v.ownBlock ≠ some b := fun he => by
  obtain ⟨_, _, cur, hc⟩ := h.block b he
  have hb' : w.heap[b]? = some (.cells cs.toArray t (0, 0)) := hb
  rw [hb'] at hc
  injection hc with hc
  injection hc with _ hc
  exact hne hc.symm
theorem Que.ne_own {α : Type} {cells : α → List Value} {size base2 : Nat} {e2 : TypeId} {v2 : Value} {l2 : List α} (h : Que base e w v l) (h2 : Own cells size base2 e2 w v2 l2) (hne : e ≠ e2) : ∀ b, v2.ownBlock = some b → v.ownBlock ≠ some b := fun b h2b he => by
  obtain ⟨_, _, cur, hc⟩ := h.block b he
  rcases h2.2 with ⟨h1, _⟩ | ⟨g, cap, cur2, hv, _, hg, _⟩
  · rw [h1] at h2b; cases h2b
  · rw [hv] at h2b
    obtain rfl : g = b := by simpa [Value.ownBlock] using h2b
    rw [hg] at hc
    injection hc with hc
    injection hc with _ hc
    exact hne hc.symm
/-- The head. -/
theorem Que.head {x : Int} (h : Que base e w v (x :: l)) : ∃ g o c, v = .slice (some ⟨g, o, none⟩) (l.length + 1) c ∧ g < w.heap.size ∧ l.length + 1 ≤ c ∧ w.cell? ⟨g, o, none⟩ = some (.int .i64 x) ∧
    (c ≠ 1 → Que base e w (.slice (some ⟨g, o + 1, none⟩) l.length (c - 1)) l) ∧ (c = 1 → Que base e w (.slice (some ⟨g, o, none⟩) 0 0) l ∧ l = []) := by
  rcases h with ⟨_, h2⟩ | ⟨g, o, c, cur, hv, hb, hg, hc, hm, hs, ht⟩
  · cases h2
  · rw [List.length_cons] at hv hc
    refine ⟨g, o, c, hv, (Array.getElem?_eq_some_iff.1 hg).1, hc, ?_, fun h1 => ?_, fun h1 => ?_⟩
    · have := ht 0 x rfl
      rw [cell_of_row w g o cur e (0, 0) hg]
      simpa using this
    · refine Or.inr ⟨g, o + 1, c - 1, cur, rfl, hb, hg, by omega, by omega, by omega, fun j y hj => ?_⟩
      rw [show o + 1 + j = o + (j + 1) by omega]
      exact ht (j + 1) y (by simpa using hj)
    · have hl : l = [] := List.eq_nil_of_length_eq_zero (by omega)
      subst hl
      exact ⟨Or.inr ⟨g, o, 0, cur, rfl, hb, hg, Nat.le_refl _, by omega, by omega, fun j y hj => by simp at hj⟩, rfl⟩
/-- 'append(q, x)'. -/
theorem Que.push {P : Program} {t : TypeId} {bytes : Nat} {z : Value} (T : ElemTy P t e 1 bytes z) (ty : TypeId) (h : Que base e w v l) (x : Int) (g0 c0 : Nat) (hx : w.cell? ⟨g0, 0, none⟩ = some (.int .i64 x)) (h63 : l.length + 1 ≤ maxLen) (hbytes : (l.length + 1) * bytes ≤ 140737488355328) (hbase : base ≤ w.heap.size) :
    ∃ v' w' row, (Builtin.append_ #[t, t] ty #[v, .slice (some ⟨g0, 0, none⟩) 1 c0]).run P w = .ok v' w' ∧ Que base e w' v' (l ++ [x]) ∧ w.grownBy w' row ∧ (∀ b, row = some b → v.ownBlock = some b) ∧ (v'.ownBlock = v.ownBlock ∨ ∃ b, v'.ownBlock = some b ∧ w.heap.size ≤ b) := by
  obtain ⟨i, hi, hz, hsz, hby⟩ := info_parts T.info
  have hnews : ∀ j u, [Value.int .i64 x][j]? = some u → w.cell? ((⟨g0, 0, none⟩ : Addr).add j) = some u := fun j u hu => by
    rw [add_form, Nat.zero_add]
    match j, hu with
    | 0, hu => simp at hu; subst hu; exact hx
  have hone : ∀ u ∈ [Value.int .i64 x], u.oneCell' = true := fun u hu => by simp at hu; subst hu; rfl
  rcases h with ⟨h1, h2⟩ | ⟨g, o, c, cur, hv, hb, hg, hc, hm, hs, ht⟩
  · subst h1 h2
    obtain ⟨v', w', hr, ho, hgr, _, hat⟩ := run_append_own_at (P := P) w base t ty e i z 1 bytes T.under hi hz hsz hby T.zero T.pos (.slice none 0 0) 0 [] (World.ownsRow_nil w base e 1) ⟨g0, 0, none⟩ 1 c0 [.int .i64 x] rfl hnews hone (by simpa using h63) (by simpa using hbytes) hbase
    refine ⟨v', w', none, hr, Que.of_own (by unfold Own; simpa [cellsInt] using ho), hgr, fun b hb => (by cases hb), ?_⟩
    rcases hat with h | h
    · exact Or.inl h
    · exact Or.inr ⟨_, h, Nat.le_refl _⟩
  · subst hv
    by_cases hroom : l.length + 1 ≤ c
    · have hin : o + l.length < cur.size := by omega
      have hr := run_append_room_cells (P := P) w t ty e i T.under hi g o l.length c ⟨g0, 0, none⟩ 1 c0 [.int .i64 x] (by rw [hsz]; rfl) hnews hone hroom (fun j hj => by
          have hj0 : j = 0 := by simpa using hj
          subst hj0
          rw [cell_of_row w g _ cur e (0, 0) hg, hsz, Nat.mul_one, Nat.add_zero, Array.getElem?_eq_getElem hin]; rfl) (fun j hj => by
          unfold World.frozen?
          simp only [hg]
          simp)
      rw [hsz, Nat.mul_one] at hr
      have hset : (w.setCell ⟨g, o + l.length, none⟩ (.int .i64 x)).heap[g]? = some (.cells (cur.setIfInBounds (o + l.length) (.int .i64 x)) e (0, 0)) := by
        unfold World.setCell
        simp only [Array.getElem?_modify, if_true, hg, Option.map_some]
        simp
      refine ⟨_, _, some g, hr, Or.inr ⟨g, o, c, cur.setIfInBounds (o + l.length) (.int .i64 x), by rw [List.length_append]; rfl, hb, hset, by rw [List.length_append]; exact hroom, hm, by rw [Array.size_setIfInBounds]; exact hs, fun j y hj => ?_⟩, grown_set w g (o + l.length) _, fun b hb => hb, Or.inl rfl⟩
      rw [Array.getElem?_setIfInBounds]
      rcases Nat.lt_or_ge j l.length with hjl | hjl
      · rw [if_neg (by omega)]
        rw [List.getElem?_append_left hjl] at hj
        exact ht j y hj
      · have hj2 := (List.getElem?_eq_some_iff.1 hj).1
        rw [List.length_append, List.length_singleton] at hj2
        obtain rfl : j = l.length := by omega
        rw [if_pos rfl, if_pos hin]
        simpa using hj
    · have holds : ∀ j u, (l.map (Value.int .i64))[j]? = some u → w.cell? ((⟨g, o, none⟩ : Addr).add j) = some u := fun j u hu => by
        rw [List.getElem?_map] at hu
        cases hj : l[j]? with
        | none => rw [hj] at hu; cases hu
        | some y =>
          rw [hj] at hu
          injection hu with hu
          subst hu
          rw [add_form, cell_of_row w g _ cur e (0, 0) hg]
          simpa using ht j y hj
      obtain ⟨v', w', hr, ho, hgr⟩ := run_append_arg_grows (P := P) w t ty e i z 1 bytes T.under hi hz hsz hby T.zero T.pos ⟨g, o, none⟩ l.length c (l.map (Value.int .i64)) (by simp) holds ⟨g0, 0, none⟩ 1 c0 [.int .i64 x] rfl hnews (by omega) h63 hbytes
      have ho2 : Own cellsInt 1 w.heap.size e w' v' (l ++ [x]) := by
        unfold Own
        rw [List.length_append, List.flatMap_append, List.length_singleton]
        have e1 : l.flatMap cellsInt = l.map (Value.int .i64) := flatMap_one l
        rw [e1]
        exact ho
      have ho3 : Own cellsInt 1 base e w' v' (l ++ [x]) := by
        refine ⟨ho2.1, ?_⟩
        rcases ho2.2 with h1 | ⟨g', cap', cur', h1, h2, h3⟩
        · exact Or.inl h1
        · exact Or.inr ⟨g', cap', cur', h1, Nat.le_trans hbase h2, h3⟩
      refine ⟨v', w', none, hr, Que.of_own ho3, hgr, fun b hb => (by cases hb), ?_⟩
      rcases ho2.2 with ⟨h1, h2⟩ | ⟨g', cap', cur', h1, h2, h3⟩
      · simp at h2
      · exact Or.inr ⟨g', by rw [h1]; rfl, h2⟩
end
end Go.Proofs.Ythlpndgfphjlkaa
