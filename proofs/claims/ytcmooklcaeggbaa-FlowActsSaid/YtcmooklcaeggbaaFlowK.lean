/-
  Chapter 29: lists of facts; Apply of the reference.
-/
import Derived.Test.YtcmooklcaeggbaaFlowE
import Derived.Test.YtcmooklcaeggbaaSortI
namespace Go.Proofs.Ytcmooklcaeggbaa
open Go.RowKit
set_option linter.unusedVariables false

/-- A value that reads as a list of numbers. -/
def IntsV (w : World) (v : Value) (l : List Int) : Prop := ∃ A c, v = .slice A l.length c ∧ l.length ≤ c ∧ Sl Lay.int w A l
theorem IntsV.of_own {base : Nat} {e : TypeId} {w : World} {v : Value} {l : List Int} (h : Own cellsInt 1 base e w v l) : IntsV w v l := Own.sl (L := Lay.int) h rfl fun _ => rfl
theorem IntsV.mono {w w' : World} {v : Value} {l : List Int} (h : IntsV w v l) (hb : Below w.heap.size w w') : IntsV w' v l := by
  obtain ⟨A, c, e, hc, hs⟩ := h
  exact ⟨A, c, e, hc, hs.mono hb⟩
theorem IntsV.nil {w : World} : IntsV w (.slice none 0 0) [] := ⟨none, 0, rfl, Nat.le_refl _, Sl.nil⟩

set_option maxHeartbeats 400000 in
theorem facts_any (A B : Option Addr) (cA cB : Nat) (f g : List Int) (w : World) (hf : Sl Lay.int w A f) (hg : Sl Lay.int w B g) (hnf : f.length ≤ 9223372036854775807) :
    Calls Try.prog 18 #[.slice A f.length cA, .slice B g.length cB] w fun e w' => e = .returned (.bool (sameB f g)) ∧ Below w.heap.size w w' := by
  by_cases hl : f.length = g.length
  · have HL := Lib.hid hl
    have h0 : ((f.length : Int) != (g.length : Int)) = false := by simp [hl]
    clear hl
    go_enter Try.func18, Try.ntmps18
    go_wp2
    go_loopw [5] (fun i wr => ∃ k : Nat, k ≤ f.length ∧ i = .int .i64 k ∧ f.take k = g.take k ∧ Below w.heap.size w wr) (fun i _ => f.length - (intOf i).toNat)
    case atStart => exact ⟨0, Nat.zero_le _, rfl, by simp, Below.refl _ _⟩
    case round =>
      obtain ⟨k, hk, rfl, ht, hbw⟩ := hrel
      have HT := Lib.hid ht
      clear ht
      by_cases hlt : k < f.length
      · have hlg : k < g.length := by have := HL.out; omega
        obtain ⟨b, o, rfl, hb, c0⟩ := (hf.mono hbw).int_at hlt
        obtain ⟨b', o', rfl, hb', c0'⟩ := (hg.mono hbw).int_at hlg
        by_cases he : f[k] = g[k]
        · have e1 : (f[k] != g[k]) = false := by simp [he]
          have HE := Lib.hid he
          clear he
          go_wp2
          refine wp_region_later (by kernel_rfl) (by kernel_rfl) ?_
          repeat (go_big_quiet_step (fail))
          refine wpQuiet_nil ?_
          rintro _ ⟨x, rfl⟩
          go_wp2
          go_roundw
          case rel => exact ⟨k + 1, by omega, by go_num, take_succ_eq hlt hlg HT.out HE.out, (by repeat (first | assumption | exact Below.refl _ _ | apply bw_alloc | apply bw_drew | apply bw_drewN | apply bw_later | apply bw_step))⟩
          case measure => simp [intOf]; omega
        · have e1 : (f[k] != g[k]) = true := by simpa using he
          have HE := Lib.hid he
          clear he
          go_wp2
          refine wp_region_later (by kernel_rfl) (by kernel_rfl) ?_
          repeat (go_big_quiet_step (fail))
          refine wpQuiet_nil ?_
          rintro _ ⟨x, rfl⟩
          go_wp2
          go_ret
          exact ⟨by rw [sameB_at hlt hlg HE.out]; rfl, (by repeat (first | assumption | exact Below.refl _ _ | apply bw_alloc | apply bw_drew | apply bw_drewN | apply bw_later | apply bw_step))⟩
      · go_wp2
        go_ret
        exact ⟨by rw [sameB_all hlt HL.out HT.out]; rfl, (by repeat (first | assumption | exact Below.refl _ _ | apply bw_alloc | apply bw_drew | apply bw_drewN | apply bw_later | apply bw_step))⟩
  · have h0 : ((f.length : Int) != (g.length : Int)) = true := bne_iff_ne.2 (by omega)
    have HL := Lib.hid hl
    clear hl
    go_enter Try.func18, Try.ntmps18
    go_wp2
    go_ret
    exact ⟨by rw [sameB_len HL.out]; rfl, (by repeat (first | assumption | exact Below.refl _ _ | apply bw_alloc | apply bw_drew | apply bw_drewN | apply bw_later | apply bw_step))⟩

/-! ### WithFact -/
def insStep (d : Int) (s : Bool × List Int) (x : Int) : Bool × List Int := if s.1 = false ∧ d < x then (true, (s.2 ++ [d]) ++ [x]) else (s.1, s.2 ++ [x])
def insTo (l : List Int) (d : Int) : Bool × List Int := l.foldl (insStep d) (false, [])
theorem insTo_snoc (l : List Int) (x d : Int) : insTo (l ++ [x]) d = insStep d (insTo l d) x := by unfold insTo; rw [List.foldl_append]; rfl
def withF (l : List Int) (d : Int) : List Int := if d ∈ l then l else if (insTo l d).1 then (insTo l d).2 else (insTo l d).2 ++ [d]
theorem insTo_len (d : Int) (l : List Int) : (insTo l d).2.length ≤ l.length + 1 ∧ ((insTo l d).1 = false → (insTo l d).2.length = l.length) := by
  suffices ∀ k, k ≤ l.length → (insTo (l.take k) d).2.length ≤ k + 1 ∧ ((insTo (l.take k) d).1 = false → (insTo (l.take k) d).2.length = k) by
    have := this l.length (Nat.le_refl _); rwa [List.take_length] at this
  intro k
  induction k with
  | zero => intro _; simp [insTo]
  | succ k ih =>
    intro hk
    have ih := ih (by omega)
    rw [List.take_succ_eq_append_getElem (by omega), insTo_snoc]
    unfold insStep
    split
    · rename_i h; have := ih.2 h.1; simp; omega
    · simp; omega
theorem withF_len (l : List Int) (d : Int) : (withF l d).length ≤ l.length + 1 := by
  have h := insTo_len d l
  unfold withF
  split
  · omega
  · split
    · omega
    · rename_i h2; have := h.2 (by simpa using h2); rw [List.length_append]; simp; omega
/-- On an ascending list: one more element, in its place. -/
theorem insTo_spec {l : List Int} {d : Int} (hl : l.Pairwise (· < ·)) (hd : d ∉ l) :
    (insTo l d).2.Pairwise (· < ·) ∧ (∀ x, x ∈ (insTo l d).2 ↔ x ∈ l ∨ ((insTo l d).1 = true ∧ x = d)) ∧ ((insTo l d).1 = false → ∀ x ∈ l, x < d) := by
  suffices ∀ k, k ≤ l.length → (insTo (l.take k) d).2.Pairwise (· < ·) ∧ (∀ x, x ∈ (insTo (l.take k) d).2 ↔ x ∈ l.take k ∨ ((insTo (l.take k) d).1 = true ∧ x = d)) ∧ ((insTo (l.take k) d).1 = false → ∀ x ∈ l.take k, x < d) ∧ ((insTo (l.take k) d).1 = true → ∃ x ∈ l.take k, d < x) by
    have := this l.length (Nat.le_refl _); rw [List.take_length] at this; exact ⟨this.1, this.2.1, this.2.2.1⟩
  intro k
  induction k with
  | zero => intro _; simp [insTo]
  | succ k ih =>
    intro hk
    obtain ⟨i1, i2, i3, i4⟩ := ih (by omega)
    have hlk : ∀ x ∈ l.take k, x < l[k] := fun x hx => by
      obtain ⟨i, hi, rfl⟩ := List.getElem_of_mem hx
      rw [List.length_take] at hi
      rw [List.getElem_take]
      exact List.pairwise_iff_getElem.1 hl i k (by omega) (by omega) (by omega)
    have hkd : l[k] ≠ d := fun e => hd (e ▸ List.getElem_mem _)
    rw [List.take_succ_eq_append_getElem (by omega), insTo_snoc]
    unfold insStep
    split
    · rename_i h
      have i3' := i3 h.1
      refine ⟨?_, fun x => ?_, (fun h0 => by cases h0), fun _ => ⟨l[k], List.mem_append.2 (Or.inr (List.mem_singleton.2 rfl)), h.2⟩⟩
      · rw [List.pairwise_append, List.pairwise_append]
        refine ⟨⟨i1, by simp, fun a ha b hb => ?_⟩, by simp, fun a ha b hb => ?_⟩
        · simp at hb; subst hb
          rcases (i2 a).1 ha with h1 | ⟨h1, _⟩
          · exact i3' a h1
          · rw [h.1] at h1; cases h1
        · simp at hb; subst hb
          rw [List.mem_append] at ha
          rcases ha with ha | ha
          · rcases (i2 a).1 ha with h1 | ⟨h1, _⟩
            · exact hlk a h1
            · rw [h.1] at h1; cases h1
          · simp at ha; subst ha; exact h.2
      · simp only [List.mem_append, List.mem_singleton, i2, h.1]
        constructor
        · rintro (((h1 | ⟨h1, _⟩) | h1) | h1)
          · exact Or.inl (Or.inl h1)
          · cases h1
          · exact Or.inr ⟨trivial, h1⟩
          · exact Or.inl (Or.inr h1)
        · rintro ((h1 | h1) | ⟨_, h1⟩)
          · exact Or.inl (Or.inl (Or.inl h1))
          · exact Or.inr h1
          · exact Or.inl (Or.inr h1)
    · rename_i h
      refine ⟨?_, fun x => ?_, fun h0 x hx => ?_, fun h0 => ?_⟩
      · rw [List.pairwise_append]
        refine ⟨i1, by simp, fun a ha b hb => ?_⟩
        simp at hb; subst hb
        rcases (i2 a).1 ha with h1 | ⟨h1, h2⟩
        · exact hlk a h1
        · subst h2
          obtain ⟨y, hy, hdy⟩ := i4 h1
          have := hlk y hy
          omega
      · simp only [List.mem_append, List.mem_singleton, i2]
        constructor
        · rintro ((h1 | h1) | h1)
          · exact Or.inl (Or.inl h1)
          · exact Or.inr h1
          · exact Or.inl (Or.inr h1)
        · rintro ((h1 | h1) | h1)
          · exact Or.inl (Or.inl h1)
          · exact Or.inr h1
          · exact Or.inl (Or.inr h1)
      · simp only [List.mem_append, List.mem_singleton] at hx
        rcases hx with hx | hx
        · exact i3 h0 x hx
        · subst hx
          have h0' : (insTo (l.take k) d).1 = false := h0
          have : ¬ d < l[k] := fun h2 => h ⟨h0', h2⟩
          omega
      · obtain ⟨y, hy, hdy⟩ := i4 h0
        exact ⟨y, List.mem_append.2 (Or.inl hy), hdy⟩
theorem withF_spec {l : List Int} {d : Int} (hl : l.Pairwise (· < ·)) : (withF l d).Pairwise (· < ·) ∧ ∀ x, x ∈ withF l d ↔ x ∈ l ∨ x = d := by
  unfold withF
  split
  · rename_i h
    exact ⟨hl, fun x => ⟨Or.inl, fun h1 => h1.elim id fun e => e ▸ h⟩⟩
  · rename_i h
    obtain ⟨h1, h2, h3⟩ := insTo_spec hl h
    split
    · rename_i hp
      exact ⟨h1, fun x => by rw [h2]; simp [hp]⟩
    · rename_i hp
      have hp' : (insTo l d).1 = false := by simpa using hp
      refine ⟨?_, fun x => by rw [List.mem_append, h2]; simp [hp']⟩
      rw [List.pairwise_append]
      refine ⟨h1, by simp, fun a ha b hb => ?_⟩
      simp at hb; subst hb
      rcases (h2 a).1 ha with h4 | ⟨h4, _⟩
      · exact h3 hp' a h4
      · rw [hp'] at h4; cases h4
end Go.Proofs.Ytcmooklcaeggbaa
