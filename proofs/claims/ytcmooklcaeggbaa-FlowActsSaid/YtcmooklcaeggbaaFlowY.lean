/-
  Chapter 29: few, Union of the program; the walk of the law FlowCompose.
-/
import Derived.Test.YtcmooklcaeggbaaFlowX
namespace Go.Proofs.Ytcmooklcaeggbaa
open Go.RowKit
set_option linter.unusedVariables false

def fewB (f g : List (Int × Int)) : Bool := decide (f.length ≤ 60) && decide (g.length ≤ 60)
theorem few_any (A B : Option Addr) (cA cB : Nat) (f g : List (Int × Int)) (w : World) (hlf : f.length ≤ 9223372036854775807) (hlg : g.length ≤ 9223372036854775807) :
    Calls Try.prog 22 #[.slice A f.length cA, .slice B g.length cB] w fun e w' => e = .returned (.bool (fewB f g)) ∧ w = w' := by
  by_cases h1 : f.length ≤ 60
  · by_cases h2 : g.length ≤ 60
    · have e : fewB f g = true := by simp [fewB, h1, h2]
      rw [e]
      have hd : decide ((g.length : Int) ≤ 60) = true := by simp; omega
      go_enter Try.func22, Try.ntmps22
      go_wp2_with fail
      go_ret
      exact ⟨rfl, rfl⟩
    · have e : fewB f g = false := by simp [fewB, h2]
      rw [e]
      have hd : decide ((g.length : Int) ≤ 60) = false := by simp; omega
      go_enter Try.func22, Try.ntmps22
      go_wp2_with fail
      go_ret
      exact ⟨rfl, rfl⟩
  · have e : fewB f g = false := by simp [fewB, h1]
    rw [e]
    go_enter Try.func22, Try.ntmps22
    go_wp2_with fail
    go_ret
    exact ⟨rfl, rfl⟩

set_option maxHeartbeats 1000000 in
theorem flowUnion_any (A B : Option Addr) (cA cB : Nat) (f g : List (Int × Int)) (w : World) (hlf : f.length ≤ 100) (hlg : g.length ≤ 100) (hf : Sl Lay.int2 w A f) (hg : Sl Lay.int2 w B g) :
    Calls Try.prog 24 #[.slice A f.length cA, .slice B g.length cB] w fun e w' => (∃ v, e = .returned v ∧ FlowV w' v (ascP (f ++ g))) ∧ Below w.heap.size w w' := by
  go_enter Try.func24, Try.ntmps24
  go_wp2_with fail
  have hb0 : ∀ o, Below w.heap.size w (w.alloc o) := fun o => bw_alloc (Below.refl _ _)
  obtain ⟨c0, c1⟩ := cells_of_two w (.slice A f.length cA) (.slice B g.length cB) 24
  refine (concatPairs_any A B cA cB w.heap.size f g _ hlf hlg (hf.mono (hb0 _)) (hg.mono (hb0 _)) (by simp) c0 c1).mono ?_
  rintro e w1 ⟨⟨v1, rfl, hv1⟩, hb1⟩
  have hbw := below_step (hb0 _) hb1
  clear hb0 c0 c1 hb1
  have hlu : (f ++ g).length ≤ 200 := by rw [List.length_append]; omega
  have HA := fun A1 n1 => flowAscending_any A1 n1 (f ++ g) w1 (by omega)
  obtain ⟨U, hU⟩ : ∃ U, U = f ++ g := ⟨_, rfl⟩
  have HU := Lib.hid (congrArg ascP hU)
  rw [← hU] at hlu HA hv1
  clear hU
  obtain ⟨A1, n1, rfl, hc1, hs1⟩ := hv1
  go_wp2_with fail
  refine (HA A1 n1 hs1).mono ?_
  rintro e w2 ⟨⟨v2, rfl, hv2⟩, hb2⟩
  rw [HU.out] at hv2
  go_wp2_with fail
  go_ret
  exact ⟨⟨_, rfl, hv2⟩, below_step hbw hb2⟩

set_option maxHeartbeats 2000000 in
theorem walk_FlowCompose (w : World) (A : Option Addr) (cA : Nat) (f : List (Int × Int)) (hcA : f.length ≤ cA) (hf : Sl Lay.int2 w A f) (hof : f.length ≤ maxLen ∧ ∀ x ∈ f, I64 x.1 ∧ I64 x.2)
    (B : Option Addr) (cB : Nat) (g : List (Int × Int)) (hcB : g.length ≤ cB) (hg : Sl Lay.int2 w B g) (hog : g.length ≤ maxLen ∧ ∀ x ∈ g, I64 x.1 ∧ I64 x.2) :
    Calls Try.prog 7 #[.slice A f.length cA, .slice B g.length cB] w fun e w' => e = .returned (.bool true) ∧ Below w.heap.size w w' := by
  have hm1 := hof.1
  have hm2 := hog.1
  unfold maxLen at hm1 hm2
  clear hof hog
  have KN : ∀ W, Calls Try.prog 14 #[] W fun e w' => e = .returned (.bool true) ∧ Below W.heap.size W w' := knows_any
  go_enter Try.func7, Try.ntmps7
  go_wp2_with fail
  refine (few_any A B cA cB f g _ hm1 hm2).mono ?_
  rintro e w1 ⟨rfl, rfl⟩
  cases hfew : fewB f g with
  | false =>
    go_wp2_with fail
    go_ret
    exact ⟨rfl, Below.refl _ _⟩
  | true =>
    simp only [fewB, Bool.and_eq_true, decide_eq_true_eq] at hfew
    obtain ⟨s1, s2⟩ := hfew
    go_wp2_with fail
    refine (flowCompose_any A B cA cB f g _ (by omega) (by omega) hf hg).mono ?_
    rintro e w1 ⟨⟨v1, rfl, hv1⟩, hb1⟩
    have hl1 : (compS f g).length ≤ 60 * 60 := Nat.le_trans (compS_len f g) (Nat.mul_le_mul s1 s2)
    go_wp2_with fail
    refine (refCompose_any A B cA cB f g _ (by omega) (by omega) (hf.mono hb1) (hg.mono hb1)).mono ?_
    rintro e w2 ⟨⟨v2, rfl, hv2⟩, hb2⟩
    have hv1' := hv1.mono hb2
    have hbw2 := below_step hb1 hb2
    have HSS := Lib.hid (sameB_self (compS f g))
    generalize compS f g = R at *
    clear hv1
    obtain ⟨A1, c1, rfl, hc1, hs1⟩ := hv1'
    obtain ⟨A2, c2, rfl, hc2, hs2⟩ := hv2
    go_wp2_with fail
    refine (refSame_any A1 A2 c1 c2 R R _ hs1 hs2 (by omega) (by omega)).mono ?_
    rintro e w3 ⟨rfl, hb3⟩
    rw [HSS.out]
    have hbw3 := below_step hbw2 hb3
    clear hs1 hs2 HSS hb1 hb2 hb3 hbw2
    go_wp2_with fail
    refine (flowUnion_any A B cA cB f g _ (by omega) (by omega) (hf.mono hbw3) (hg.mono hbw3)).mono ?_
    rintro e w4 ⟨⟨v4, rfl, hv4⟩, hb4⟩
    have hbw4 := below_step hbw3 hb4
    go_wp2_with fail
    refine (refUnion_any A B cA cB f g _ (by omega) (by omega) (hf.mono hbw4) (hg.mono hbw4)).mono ?_
    rintro e w5 ⟨⟨v5, rfl, hv5⟩, hb5⟩
    have hv4' := hv4.mono hb5
    have hl4 : (ascP (f ++ g)).length ≤ 120 := Nat.le_trans (ascP_len _) (by rw [List.length_append]; omega)
    have hbw5 := below_step hbw4 hb5
    have HSS := Lib.hid (sameB_self (ascP (f ++ g)))
    generalize ascP (f ++ g) = U at *
    clear hv4
    obtain ⟨A4, c4, rfl, hc4, hs4⟩ := hv4'
    obtain ⟨A5, c5, rfl, hc5, hs5⟩ := hv5
    go_wp2_with fail
    refine (refSame_any A4 A5 c4 c5 U U _ hs4 hs5 (by omega) (by omega)).mono ?_
    rintro e w6 ⟨rfl, hb6⟩
    rw [HSS.out]
    have hbw6 := below_step hbw5 hb6
    go_wp2_with fail
    refine (KN _).mono ?_
    rintro e w7 ⟨rfl, hb7⟩
    go_wp2_with fail
    go_ret
    exact ⟨rfl, below_step hbw6 hb7⟩
end Go.Proofs.Ytcmooklcaeggbaa
