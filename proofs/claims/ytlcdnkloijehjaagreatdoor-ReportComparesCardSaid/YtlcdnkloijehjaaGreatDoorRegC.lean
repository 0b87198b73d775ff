/-
  Regions that draw their order, once more (XReg, XRegZ): here each operation leaves a world of a class that the proof names. It holds no statement about the program.
-/
import Derived.Test.YtlcdnkloijehjaaGreatDoorReg
namespace Go.Proofs.YtlcdnkloijehjaaGreatDoor
open Go.RowKit
set_option linter.unusedVariables false

/-- A world of the class. -/
structure Held (S : World → Prop) where
  W : World
  h : S W
section
variable {P : Program} {ops : Array Oper} {S : World → Prop} {Q : Exit → Act → World → Prop}
/-- One value in every world of the class, and the world stays. -/
def RestsC (P : Program) (ops : Array Oper) (S : World → Prop) (o : Oper) (v : Value) (a : Act) : Prop :=
  (Region.wanted o (yielded ops a.tmps) = true ∧ ∀ w', S w' → (execOp a.eval o).run P w' = .ok (.value v) w') ∨
  (Region.wanted o (yielded ops a.tmps) = false ∧ v = undef)
theorem RestsC.wpOp {i : Nat} {w : World} {o : Oper} {v : Value} {a : Act} (h : RestsC P ops S o v a) (hi : ops[i]? = some o) (hw0 : S w) {K : Act → World → Prop} (hK : K (a.put o.dst v) w) : wpOp P ops Q i K a w := by
  unfold Go.wpOp
  simp only [hi]
  rcases h with ⟨hw, h2⟩ | ⟨hw, rfl⟩
  · simp only [hw, if_true]
    left
    unfold Oper.wp
    rw [h2 w hw0]
    exact hK
  · simp only [hw, Bool.false_eq_true, if_false]; exact hK
theorem RestsC.same {o : Oper} {v : Value} {a a' : Act} (hy : RestsC P ops S o v a) (he : execOp a'.eval o = execOp a.eval o)
    (hw : Region.wanted o (yielded ops a'.tmps) = Region.wanted o (yielded ops a.tmps)) : RestsC P ops S o v a' := by
  unfold RestsC at *
  rw [he, hw]
  exact hy
end

section
variable {P : Program} {ops : Array Oper} {md : Region.Mode} {Q : Exit → Act → World → Prop} {S : World → Prop}
theorem wpOp_putC {j : Nat} {w : World} {oi oj : Oper} {v : Value} (hj : ops[j]? = some oj) (hap : oi.apart ops oj = true) (hsi : ∀ cs b, oi.op ≠ .select cs b) (hsj : ∀ cs b, oj.op ≠ .select cs b) {K : Act → World → Prop} {a : Act}
    (hy : RestsC P ops S oi v a) (h : wpOp P ops QF j K (a.put oi.dst v) w) : wpOp P ops QF j (fun a' w' => RestsC P ops S oi v a' ∧ K (a'.put oi.dst v) w') a w := by
  obtain ⟨h1, h2, h3⟩ := Oper.apart_spec hap
  have keep : ∀ u, RestsC P ops S oi v (a.put oj.dst u) := fun u =>
    hy.same (execOp_put oi hsi a oj.dst u h3) (wanted_put oi a oj.dst u h3)
  have keepD : ∀ (ds : List Deferred) u, RestsC P ops S oi v (({ a with defers := ds } : Act).put oj.dst u) := fun ds u => by
    have hy' : RestsC P ops S oi v { a with defers := ds } := hy.same (by rw [eval_defers]) rfl
    exact hy'.same (execOp_put oi hsi _ oj.dst u h3) (wanted_put oi _ oj.dst u h3)
  have comm : ∀ (b : Act) u, (b.put oj.dst u).put oi.dst v = (b.put oi.dst v).put oj.dst u := fun b u => (Act.put_comm b v u h2).symm
  unfold wpOp at *
  simp only [hj] at *
  rw [wanted_put oj a oi.dst v h1] at h
  split
  · rename_i hw
    simp only [hw, if_true] at h
    rcases h with h | h
    · left
      unfold Oper.wp at *
      rw [execOp_put oj hsj a oi.dst v h1] at h
      generalize (execOp a.eval oj).run P w = r at *
      cases r with
      | ok n w' =>
        cases n <;> simp only [Oper.upon] at h ⊢
        case value u => exact ⟨keep u, by rw [comm]; exact h⟩
        case skip => exact ⟨keep _, by rw [comm]; exact h⟩
        case defer d =>
          refine ⟨keepD _ _, ?_⟩
          rw [comm]
          rw [Act.put_defers] at h
          exact h
        case enter f args =>
          exact h.mono fun e w'' he => by
            cases e with
            | returned u => exact ⟨keep u, by rw [comm]; exact he⟩
            | panicked c => exact he
            | outgrown => exact he
        case row r args => exact Rows.mono h fun u w'' he => ⟨keep u, by rw [comm]; exact he⟩
      | halt x w' => cases x <;> simp only [Oper.upon] at h ⊢ <;> exact h
    · exact absurd h.2 letsOut_QF
  · rename_i hw
    simp only [hw] at h
    exact ⟨keep _, by rw [comm]; exact h⟩

/-- Whatever order is picked from here on, as long as operations before number n are left; each of them leaves a later world. -/
def wpC (P : Program) (S : World → Prop) (md : Region.Mode) (ops : Array Oper) (n : Nat) (L : Array Bool → Act → World → Prop) : Nat → Array Bool → Act → World → Prop
  | 0, listed, a, w => L listed a w
  | f + 1, listed, a, w =>
    Region.ready md ops listed ≠ [] ∧
    ∀ i ∈ Region.ready md ops listed, i < n ∧ wpOp P ops QF i (fun a' w' => S w' ∧ wpC P S md ops n L f (listed.setIfInBounds i true) a' w') a w

theorem wpAny_of_C {n g : Nat} {L : Array Bool → Act → World → Prop} (hL : ∀ listed a w, L listed a w → wpAny P md ops Q g listed a w) :
    ∀ (f : Nat) (listed : Array Bool) (a : Act) (w : World), wpC P S md ops n L f listed a w → wpAny P md ops Q (f + g) listed a w
  | 0, listed, a, w, h => by rw [Nat.zero_add]; exact hL _ _ _ h
  | f + 1, listed, a, w, h => by
    rw [show f + 1 + g = (f + g) + 1 by omega]
    exact ⟨fun h0 => absurd h0 h.1, fun i hi => wpOp_QF (wpOp_mono (fun a' w' h' => wpAny_of_C hL f _ a' w' h'.2) (h.2 i hi).2)⟩

theorem wpC_first {n i : Nat} {oi : Oper} {v : Value} {L : Array Bool → Act → World → Prop} (hi : ops[i]? = some oi) (hsel : ∀ (j : Nat) (o : Oper) cs b, ops[j]? = some o → o.op ≠ .select cs b)
    (hT : TailOk md ops n) (hin : i < n) (hdone : ∀ listed a w, L listed a w → ∀ j ∈ Region.ready md ops listed, n ≤ j) :
    ∀ (f : Nat) (listed : Array Bool) (a : Act) (w : World), HeadInv md ops n listed → S w →
      (∀ j oj, ops[j]? = some oj → j ≠ i → listed.getD j true = false → (∀ e ∈ oj.after, Region.binds md e = true → e.on ≠ i) → oi.apart ops oj = true) →
      i ∈ Region.ready md ops listed → RestsC P ops S oi v a →
      wpC P S md ops n L f (listed.setIfInBounds i true) (a.put oi.dst v) w → wpC P S md ops n L (f + 1) listed a w := by
  intro f
  induction f with
  | zero =>
    intro listed a w inv hbw _ hr hy H
    have hun := (mem_ready.1 hr).1
    refine ⟨fun h => (by rw [h] at hr; cases hr), fun j hj => ?_⟩
    have hjn : j < n := by
      rcases Nat.lt_or_ge j n with h | h
      · exact h
      · exact absurd hj (hT _ inv i hin hun j h)
    refine ⟨hjn, ?_⟩
    by_cases hji : j = i
    · subst hji; exact hy.wpOp hi hbw ⟨hbw, H⟩
    · have := hdone _ _ _ H j (ready_mono hj hji)
      omega
  | succ f ih =>
    intro listed a w inv hbw hfree hr hy H
    have hun := (mem_ready.1 hr).1
    refine ⟨fun h => (by rw [h] at hr; cases hr), fun j hj => ?_⟩
    have hjn : j < n := by
      rcases Nat.lt_or_ge j n with h | h
      · exact h
      · exact absurd hj (hT _ inv i hin hun j h)
    refine ⟨hjn, ?_⟩
    by_cases hji : j = i
    · subst hji; exact hy.wpOp hi hbw ⟨hbw, H⟩
    · have h1 := (H.2 j (ready_mono hj hji)).2
      obtain ⟨hjun, oj, hoj, hall⟩ := mem_ready.1 hj
      have hnot : ∀ e ∈ oj.after, Region.binds md e = true → e.on ≠ i := fun e he hb heq => by
        have h1 := hall e he hb
        rw [heq, getD_both hun] at h1
        cases h1
      have h2 := wpOp_putC hoj (hfree j oj hoj hji hjun hnot) (fun cs b => hsel i oi cs b hi) (fun cs b => hsel j oj cs b hoj) hy h1
      have hfree' : ∀ k ok, ops[k]? = some ok → k ≠ i → (listed.setIfInBounds j true).getD k true = false →
          (∀ e ∈ ok.after, Region.binds md e = true → e.on ≠ i) → oi.apart ops ok = true := fun k ok hk hki hun hno => by
        refine hfree k ok hk hki ?_ hno
        by_cases hjk : j = k
        · subst hjk; exact hjun
        · rw [getD_set_ne true hjk] at hun; exact hun
      refine wpOp_mono (fun a' w' h3 => ⟨h3.2.1, ih (listed.setIfInBounds j true) a' w' (inv.set hj hjn) h3.2.1 hfree' (ready_mono hr (Ne.symm hji)) h3.1 ?_⟩) h2
      rw [Array.setIfInBounds_comm _ _ hji]
      exact h3.2.2

/-- The region from here on. -/
def RC (P : Program) (S : World → Prop) (ops : Array Oper) (Q : Exit → Act → World → Prop) (n f : Nat) (listed : Array Bool) (a : Act) (w : World) : Prop :=
  S w → TailOk .any ops n → Region.noSelect ops = true → HeadInv .any ops n listed →
    wpC P S .any ops n (fun listed' a' w' => (∀ j ∈ Region.ready .any ops listed', n ≤ j) ∧ wpAny P .any ops Q (ops.size - n) listed' a' w') f listed a w

/-- Quiet operations, taken now. -/
theorem RC.chunk {n f : Nat} : ∀ (idx : List Nat) {listed : Array Bool} {a : Act} {w : World}, Region.chunkB ops n idx listed = true →
    wpQuiet P ops (fun w' => ∃ x : Held S, w' = x.W) (fun a' => RC P S ops Q n f (setAll idx listed) a' w) (pickOps ops idx) a → RC P S ops Q n (f + idx.length) listed a w
  | [], listed, a, w, _, h => h
  | i :: r, listed, a, w, hB, h => by
    intro hbw hT hsel inv
    simp only [Region.chunkB, Bool.and_eq_true, decide_eq_true_eq] at hB
    obtain ⟨⟨⟨⟨hr, hf⟩, hin⟩, hp⟩, hB'⟩ := hB
    have hr' : i ∈ Region.ready .any ops listed := by simpa using hr
    obtain ⟨_, o, ho, _⟩ := mem_ready.1 hr'
    rw [ho] at hp
    have hp' : plainOp o.op = true := by simpa using hp
    have hpk : pickOps ops (i :: r) = o :: pickOps ops r := by unfold pickOps; rw [List.filterMap_cons, ho]
    rw [hpk] at h
    have hst : qOp P ops (fun w' => ∃ x : Held S, w' = x.W) i (wpQuiet P ops (fun w' => ∃ x : Held S, w' = x.W) (fun a' => RC P S ops Q n f (setAll (i :: r) listed) a' w) (pickOps ops r)) a := by
      unfold qOp; simp only [ho]; exact h
    obtain ⟨v, hy, hK⟩ := yieldsIn_of_qOp ho hst
    have hrest : RestsC P ops S o v a := by
      rcases hy with ⟨h1, h2⟩ | ⟨h1, h2⟩
      · refine .inl ⟨h1, fun w' hb => ?_⟩
        have h3 := h2 w' ⟨⟨w', hb⟩, rfl⟩
        unfold Oper.quietAt at h3
        cases hrun : (execOp a.eval o).run P w' with
        | ok nx w'' =>
          obtain ⟨u, rfl⟩ := plain_value hp' hrun
          rw [hrun] at h3
          obtain ⟨e1, e2⟩ := h3
          rw [e1, e2]
        | halt x w'' => rw [hrun] at h3; exact h3.elim
      · exact .inr ⟨h1, h2⟩
    have hrec := RC.chunk (f := f) r hB' hK hbw hT hsel (inv.set hr' hin)
    exact wpC_first ho (Region.noSelect_spec hsel) hT hin (fun _ _ _ hL => hL.1) _ listed a w inv hbw (Region.free_spec ho hf) hr' hrest hrec

/-- The one operation that is ready. -/
theorem RC.single {n f : Nat} {listed : Array Bool} {a : Act} {w : World} (i : Nat) {o : Oper} (ho : ops[i]? = some o) (hr : Region.ready .any ops listed = [i]) (hin : i < n)
    (h : ∀ K : Act → World → Prop, (∀ a' w', S w' → RC P S ops Q n f (listed.setIfInBounds i true) a' w' → K a' w') → wpList P ops (Exit.then K QF) [o] a w) : RC P S ops Q n (f + 1) listed a w := by
  intro hbw hT hsel inv
  refine ⟨fun h0 => (by rw [hr] at h0; cases h0), fun j hj => ?_⟩
  rw [hr] at hj
  have hji : j = i := by simpa using hj
  subst hji
  refine ⟨hin, ?_⟩
  have h1 := h (fun a' w' => S w' ∧ wpC P S .any ops n (fun listed' a' w' => (∀ j ∈ Region.ready .any ops listed', n ≤ j) ∧ wpAny P .any ops Q (ops.size - n) listed' a' w') f (listed.setIfInBounds j true) a' w') (fun a' w' hb h' => ⟨hb, h' hb hT hsel (inv.set (by rw [hr]; simp) hin)⟩)
  unfold wpOp
  simp only [ho]
  simp only [wpList] at h1
  split
  · rename_i hw
    simp only [hw, if_true] at h1
    rcases h1 with h1 | h1
    · left
      unfold Oper.wp at *
      generalize (execOp a.eval o).run P w = r at *
      cases r with
      | ok nx w' =>
        cases nx <;> simp only [Oper.upon, Exit.then] at h1 ⊢ <;> exact h1
      | halt x w' => cases x <;> simp only [Oper.upon, Exit.then] at h1 ⊢ <;> exact h1
    · obtain ⟨_, _, _, h⟩ := h1; exact h.elim
  · rename_i hw
    simp only [hw] at h1
    exact h1

/-- Two operations that are ready. -/
theorem RC.both {n f : Nat} {listed : Array Bool} {a : Act} {w : World} (i j : Nat) {oi oj : Oper} (hi : ops[i]? = some oi) (hj : ops[j]? = some oj) (hr : Region.ready .any ops listed = [i, j]) (hin : i < n) (hjn : j < n)
    (h1 : ∀ K : Act → World → Prop, (∀ a' w', S w' → RC P S ops Q n f (listed.setIfInBounds i true) a' w' → K a' w') → wpList P ops (Exit.then K QF) [oi] a w)
    (h2 : ∀ K : Act → World → Prop, (∀ a' w', S w' → RC P S ops Q n f (listed.setIfInBounds j true) a' w' → K a' w') → wpList P ops (Exit.then K QF) [oj] a w) : RC P S ops Q n (f + 1) listed a w := by
  intro hbw hT hsel inv
  have key : ∀ (k : Nat) (o : Oper), ops[k]? = some o → k ∈ Region.ready .any ops listed → k < n →
      (∀ K : Act → World → Prop, (∀ a' w', S w' → RC P S ops Q n f (listed.setIfInBounds k true) a' w' → K a' w') → wpList P ops (Exit.then K QF) [o] a w) →
      wpOp P ops QF k (fun a' w' => S w' ∧ wpC P S .any ops n (fun listed' a' w' => (∀ j ∈ Region.ready .any ops listed', n ≤ j) ∧ wpAny P .any ops Q (ops.size - n) listed' a' w') f (listed.setIfInBounds k true) a' w') a w := by
    intro k o ho hk hkn h
    have h1 := h (fun a' w' => S w' ∧ wpC P S .any ops n (fun listed' a' w' => (∀ j ∈ Region.ready .any ops listed', n ≤ j) ∧ wpAny P .any ops Q (ops.size - n) listed' a' w') f (listed.setIfInBounds k true) a' w') (fun a' w' hb h' => ⟨hb, h' hb hT hsel (inv.set hk hkn)⟩)
    unfold wpOp
    simp only [ho]
    simp only [wpList] at h1
    split
    · rename_i hw
      simp only [hw, if_true] at h1
      rcases h1 with h1 | h1
      · left
        unfold Oper.wp at *
        generalize (execOp a.eval o).run P w = r at *
        cases r with
        | ok nx w' =>
          cases nx <;> simp only [Oper.upon, Exit.then] at h1 ⊢ <;> exact h1
        | halt x w' => cases x <;> simp only [Oper.upon, Exit.then] at h1 ⊢ <;> exact h1
      · obtain ⟨_, _, _, h⟩ := h1; exact h.elim
    · rename_i hw
      simp only [hw] at h1
      exact h1
  refine ⟨fun h0 => (by rw [hr] at h0; cases h0), fun k hk => ?_⟩
  have hk' := hk
  rw [hr] at hk'
  simp only [List.mem_cons, List.not_mem_nil, or_false] at hk'
  rcases hk' with rfl | rfl
  · exact ⟨hin, key _ _ hi hk hin h1⟩
  · exact ⟨hjn, key _ _ hj hk hjn h2⟩

/-- What stands behind number n, one operation behind the other. -/
theorem RC.tail {l : List Oper} {n : Nat} {listed : Array Bool} {a : Act} {w : World} (hB : Region.seqB .any l.toArray (l.length - n) n listed = true) (h : wpList P l.toArray Q (l.drop n) a w) : RC P S l.toArray Q n 0 listed a w := by
  intro hbw hT hsel inv
  refine ⟨seqB_ready hB, ?_⟩
  have hdl : (l.drop n).length = l.toArray.size - n := by simp
  have := wpAny_of_seq (md := .any) (Q' := Q) (l.drop n) n listed a w (fun j => by simp [List.getElem?_drop]) (by rw [hdl]; simpa using hB) h
  rwa [hdl] at this
theorem RC.done {n : Nat} {listed : Array Bool} {a : Act} {w : World} (hn : ops.size - n = 0) (hB : Region.ready .any ops listed = []) (h : Q .normal a w) : RC P S ops Q n 0 listed a w := by
  intro hbw hT hsel inv
  refine ⟨fun j hj => (by rw [hB] at hj; cases hj), ?_⟩
  rw [hn]
  exact ⟨hB, h⟩

theorem wp_region_RC {id : Nat} {a : Act} {w : World} {l : List Oper} (n : Nat) (hm : P.follows .mixedOrders = true) (h0 : S w.drew) (hB : Region.regB l.toArray n = true)
    (h : RC P S l.toArray Q n n (Array.replicate l.length false) a w.drew) : (Code.region id l.toArray true).wp P Q a w := by
  simp only [Region.regB, Bool.and_eq_true] at hB
  have hT := TailOk.of hB.2
  have hn : n ≤ l.length := by
    have := hB.2
    simp only [Bool.or_eq_true, Bool.and_eq_true, decide_eq_true_eq] at this
    rcases this with h | ⟨⟨h, _⟩, _⟩
    · simp at h; omega
    · simp at h; omega
  have inv0 : HeadInv .any l.toArray n (Array.replicate l.length false) :=
    ⟨by simp, fun j oj _ hl => (by rw [getD_replicate_false] at hl; cases hl), fun t _ ht => getD_in (by simpa using ht) (getD_replicate_false _ _)⟩
  refine wp_region_any hm ?_
  have := wpAny_of_C (Q := Q) (g := l.toArray.size - n) (fun listed a' w' hL => hL.2) _ _ _ _ (h h0 hT hB.1 inv0)
  rw [show n + (l.toArray.size - n) = l.toArray.size by simp; omega] at this
  simpa using this
end
end Go.Proofs.YtlcdnkloijehjaaGreatDoor
