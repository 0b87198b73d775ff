/-
  Chapter 29: the walk of the law FlowApply.
-/
import Derived.Test.YtcmooklcaeggbaaFlowM
import Derived.Test.YtcmooklcaeggbaaFlowJ
namespace Go.Proofs.Ytcmooklcaeggbaa
open Go.RowKit
set_option linter.unusedVariables false

theorem refOut_spec (facts : List Int) (f : List (Int × Int)) : (refOut facts f).Pairwise (· < ·) ∧ ∀ x, x ∈ refOut facts f ↔ x ∈ outOf facts f := by
  suffices ∀ k, (refOut facts (f.take k)).Pairwise (· < ·) ∧ ∀ x, x ∈ refOut facts (f.take k) ↔ x ∈ outOf facts (f.take k) by have := this f.length; rwa [List.take_length] at this
  intro k
  induction k with
  | zero => simp [refOut, outOf]
  | succ k ih =>
    rcases Nat.lt_or_ge k f.length with hk | hk
    · rw [List.take_succ_eq_append_getElem hk, refOut_snoc]
      cases h : applies facts f[k] with
      | true =>
        rw [if_pos rfl, outOf_yes h]
        obtain ⟨h1, h2⟩ := withF_spec (d := f[k].2) ih.1
        refine ⟨h1, fun x => ?_⟩
        rw [h2, ih.2, List.mem_append, List.mem_singleton]
      | false =>
        rw [if_neg (by simp), outOf_no h]
        exact ih
    · rw [List.take_of_length_le (by omega)]; rwa [List.take_of_length_le (by omega)] at ih
theorem apply_same (facts : List Int) (f : List (Int × Int)) : ascI (outOf facts f) = refOut facts f := by
  obtain ⟨h1, h2⟩ := ascI_spec (outOf facts f)
  obtain ⟨h3, h4⟩ := refOut_spec facts f
  exact asc_ext h1 h3 fun x => (h2 x).trans (h4 x).symm
theorem okInt_of_I64 {x : Int} (h : I64 x) : okInt x := okInt_of h.1 h.2

set_option maxHeartbeats 1000000 in
theorem walk_FlowApply (w : World) (A : Option Addr) (cA : Nat) (f : List (Int × Int)) (hcA : f.length ≤ cA) (hf : Sl Lay.int2 w A f) (hof : f.length ≤ maxLen ∧ ∀ x ∈ f, I64 x.1 ∧ I64 x.2)
    (B : Option Addr) (cB : Nat) (l : List Int) (hcB : l.length ≤ cB) (hg : Sl Lay.int w B l) (hog : l.length ≤ maxLen ∧ ∀ x ∈ l, I64 x) :
    Calls Try.prog 5 #[.slice A f.length cA, .slice B l.length cB] w fun e w' => e = .returned (.bool true) ∧ Below w.heap.size w w' := by
  have of' : Hid (∀ x ∈ f, okInt x.1) := fun x hx => okInt_of_I64 (hof.2 x hx).1
  have ol' : Hid (∀ x ∈ l, okInt x) := fun x hx => okInt_of_I64 (hog.2 x hx)
  clear hof hog
  by_cases s1 : 300 < f.length
  · go_enter Try.func5, Try.ntmps5
    go_wp2_with fail
    go_ret
    exact ⟨rfl, Below.refl _ _⟩
  by_cases s2 : 100 < l.length
  · go_enter Try.func5, Try.ntmps5
    go_wp2_with fail
    go_ret
    exact ⟨rfl, Below.refl _ _⟩
  have s1' : f.length ≤ 300 := by omega
  have s2' : l.length ≤ 100 := by omega
  clear s1 s2
  go_enter Try.func5, Try.ntmps5
  go_wp2_with fail
  refine (flowApply_any A B cA cB f l _ (by omega) (by omega) hf hg of' ol').mono ?_
  rintro e w1 ⟨⟨v1, rfl, hv1⟩, hb1⟩
  rw [apply_same] at hv1
  go_wp2_with fail
  refine (refApply_any A B cA cB f l _ (by omega) (by omega) (hf.mono hb1) (hg.mono hb1)).mono ?_
  rintro e w2 ⟨⟨v2, rfl, hv2⟩, hb2⟩
  obtain ⟨A1, c1, rfl, hc1, hs1⟩ := hv1.mono hb2
  obtain ⟨A2, c2, rfl, hc2, hs2⟩ := hv2
  clear hv1
  have hlen := refOut_len l f f.length
  rw [List.take_length] at hlen
  generalize refOut l f = r at *
  have HS : Hid (sameB r r = true) := by show _ = _; simp [sameB]
  go_wp2_with fail
  refine (facts_any A1 A2 c1 c2 r r _ hs1 hs2 (by omega)).mono ?_
  rintro e w3 ⟨rfl, hb3⟩
  rw [HS.out]
  go_wp2_with fail
  refine (knows_any _).mono ?_
  rintro e w4 ⟨rfl, hb4⟩
  go_wp2_with fail
  go_ret
  exact ⟨rfl, below_step (below_step (below_step hb1 hb2) hb3) hb4⟩
end Go.Proofs.Ytcmooklcaeggbaa
