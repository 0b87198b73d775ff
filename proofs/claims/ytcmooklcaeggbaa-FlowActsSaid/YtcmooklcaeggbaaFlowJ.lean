/-
  Chapter 29: the walks of the laws FlowMake and FlowCheck.
-/
import Derived.Test.YtcmooklcaeggbaaFlowD
import Derived.Test.YtcmooklcaeggbaaFlowF
import Derived.Test.YtcmooklcaeggbaaFlowI
import Derived.Test.YtcmooklcaeggbaaOpen
namespace Go.Proofs.Ytcmooklcaeggbaa
open Go.RowKit
set_option linter.unusedVariables false

theorem opensInts : Opens Try.prog 22 Lay.int.slice (fun l => l.length ≤ maxLen ∧ ∀ x ∈ l, I64 x) :=
  Opens.slice Try.underlying22 (by kernel_rfl) (by decide) (Opens.int Try.underlying3)
theorem opensPair : Opens Try.prog 46 Lay.int2 (fun x => I64 x.1 ∧ I64 x.2) :=
  (Opens.struct (L := Lay.int.and (Lay.int.and Lay.unit)) Try.underlying46 (by kernel_rfl)
    (OpensF.cons rfl (by kernel_rfl) (Opens.int Try.underlying3) (OpensF.cons rfl (by kernel_rfl) (Opens.int Try.underlying3) OpensF.nil))).turn (fun x => (x.1, x.2.1))
    (by rintro w ⟨a, b, u⟩ vs ⟨us, ts, rfl, h1, us2, ts2, rfl, h2, h3⟩
        simp only [Lay.int, Lay.unit, Lay.plain, Lay.int2] at *
        subst h1; subst h2; subst h3
        rfl)
    (by rintro ⟨a, b, u⟩ ⟨h1, h2, h3⟩; exact ⟨h1, h2⟩)
theorem opensFlow : Opens Try.prog 24 Lay.int2.slice (fun l => l.length ≤ maxLen ∧ ∀ x ∈ l, I64 x.1 ∧ I64 x.2) :=
  Opens.slice Try.underlying24 (by kernel_rfl) (by decide) opensPair

set_option maxHeartbeats 400000 in
theorem walk_FlowCheck (w : World) (A : Option Addr) (cA : Nat) (f : List (Int × Int)) (hcA : f.length ≤ cA) (hf : Sl Lay.int2 w A f) (hof : f.length ≤ maxLen ∧ ∀ x ∈ f, I64 x.1 ∧ I64 x.2)
    (B : Option Addr) (cB : Nat) (g : List (Int × Int)) (hcB : g.length ≤ cB) (hg : Sl Lay.int2 w B g) (hog : g.length ≤ maxLen ∧ ∀ x ∈ g, I64 x.1 ∧ I64 x.2) (n : Int) (hn : I64 n) :
    Calls Try.prog 4 #[.slice A f.length cA, .slice B g.length cB, .int .i64 n] w fun e w' => e = .returned (.bool true) ∧ Below w.heap.size w w' := by
  have lf : f.length ≤ 9223372036854775807 := hof.1
  have lg : g.length ≤ 9223372036854775807 := hog.1
  clear hof hog
  go_enter Try.func4, Try.ntmps4
  go_wp2_with fail
  refine (flowCheck_any A cA f n _ hf lf).mono ?_
  rintro e w1 ⟨rfl, hb1⟩
  go_wp2_with fail
  refine (refCheck_any A cA f n _ (hf.mono hb1) lf).mono ?_
  rintro e w2 ⟨rfl, hb2⟩
  have hb2' := below_step hb1 hb2
  go_wp2_with fail
  refine (flowSame_any A B cA cB f g _ (hf.mono hb2') (hg.mono hb2') lf lg).mono ?_
  rintro e w3 ⟨rfl, hb3⟩
  have hb3' := below_step hb2' hb3
  go_wp2_with fail
  refine (refSame_any A B cA cB f g _ (hf.mono hb3') (hg.mono hb3') lf lg).mono ?_
  rintro e w4 ⟨rfl, hb4⟩
  have hb4' := below_step hb3' hb4
  have hs : sameB f f = true := by simp [sameB]
  have HS := Lib.hid hs
  clear hs
  go_wp2_with fail
  refine (flowSame_any A A cA cA f f _ (hf.mono hb4') (hf.mono hb4') lf lf).mono ?_
  rintro e w5 ⟨rfl, hb5⟩
  have hb5' := below_step hb4' hb5
  rw [HS.out]
  go_wp2_with fail
  refine (knows_any _).mono ?_
  rintro e w6 ⟨rfl, hb6⟩
  go_wp2_with fail
  go_ret
  exact ⟨rfl, below_step hb5' hb6⟩

theorem MakeR.form (n : Int) (gen kill : List Int) : ∃ (c : Int) (l : List (Int × Int)), l.length ≤ 9223372036854775807 ∧ ∀ e w', MakeR n gen kill e w' → ∃ v, e = .returned (.tuple #[v, .int .i64 c]) ∧ FlowV w' v l := by
  by_cases hb : makeBad n gen kill
  · exact ⟨4, [], by simp, fun e w' h => ⟨_, h.1 hb, FlowV.nil⟩⟩
  · refine ⟨0, makeL n.toNat gen kill, ?_, fun e w' h => h.2 hb⟩
    have h1 := genTo_len gen n.toNat
    have h2 := keepTo_len kill n.toNat
    have h3 : n.toNat ≤ 1024 := by unfold makeBad at hb; omega
    unfold makeL
    rw [List.length_append]
    omega
theorem IdR.form (n : Int) : ∃ (c : Int) (l : List (Int × Int)), l.length ≤ 9223372036854775807 ∧ ∀ e w', IdR n e w' → ∃ v, e = .returned (.tuple #[v, .int .i64 c]) ∧ FlowV w' v l := by
  by_cases hb : n < 1 ∨ 1024 < n
  · exact ⟨4, [], by simp, fun e w' h => ⟨_, h.1 hb, FlowV.nil⟩⟩
  · refine ⟨0, idTo n.toNat, ?_, fun e w' h => h.2 hb⟩
    rw [idTo_len]
    omega
theorem sameB_self (l : List (Int × Int)) : sameB l l = true := by simp [sameB]

set_option maxHeartbeats 1000000 in
theorem walk_FlowMake (w : World) (n : Int) (hn : I64 n) (A : Option Addr) (cA : Nat) (gen : List Int) (hcA : gen.length ≤ cA) (hf : Sl Lay.int w A gen) (hof : gen.length ≤ maxLen ∧ ∀ x ∈ gen, I64 x)
    (B : Option Addr) (cB : Nat) (kill : List Int) (hcB : kill.length ≤ cB) (hg : Sl Lay.int w B kill) (hog : kill.length ≤ maxLen ∧ ∀ x ∈ kill, I64 x) :
    Calls Try.prog 3 #[.int .i64 n, .slice A gen.length cA, .slice B kill.length cB] w fun e w' => e = .returned (.bool true) ∧ Below w.heap.size w w' := by
  have lf : gen.length ≤ 9223372036854775807 := hof.1
  have lg : kill.length ≤ 9223372036854775807 := hog.1
  clear hof hog
  by_cases hskip : (200 < n ∧ n ≤ 1024) ∨ 100 < gen.length ∨ 100 < kill.length
  · by_cases s1 : 200 < n <;> by_cases s2 : n ≤ 1024 <;> by_cases s3 : 100 < gen.length <;> by_cases s4 : 100 < kill.length
    all_goals (first | (exfalso; clear hf hg; omega) | skip)
    all_goals (clear hskip; go_enter Try.func3, Try.ntmps3; go_wp2_with fail; go_ret; exact ⟨rfl, Below.refl _ _⟩)
  have s1 : n ≤ 200 ∨ 1024 < n := by omega
  have s3 : gen.length ≤ 100 := by omega
  have s4 : kill.length ≤ 100 := by omega
  clear hskip
  have d1 : (decide (200 < n) && decide (n ≤ 1024)) = false := by simp; omega
  obtain ⟨c, l, hll, hcl⟩ := MakeR.form n gen kill
  have HC := Lib.hid hcl
  clear hcl
  obtain ⟨c', l', hll', hcl'⟩ := IdR.form n
  have HC' := Lib.hid hcl'
  clear hcl'
  by_cases s5 : 200 < n
  all_goals
    go_enter Try.func3, Try.ntmps3
    go_wp2_with fail
    refine (flowMake_any A B cA cB n gen kill _ hf hg lf lg).mono ?_
    rintro e w1 ⟨hm1, hb1⟩
    obtain ⟨v1, rfl, hv1⟩ := HC.out _ _ hm1
    clear hm1
    go_wp2_with fail
    refine (refMake_any A B cA cB n gen kill _ (hf.mono hb1) (hg.mono hb1) lf lg).mono ?_
    rintro e w2 ⟨hm2, hb2⟩
    obtain ⟨v2, rfl, hv2⟩ := HC.out _ _ hm2
    clear hm2
    go_wp2_with fail
    refine (flowIdentity_any n _).mono ?_
    rintro e w3 ⟨hm3, hb3⟩
    obtain ⟨v3, rfl, hv3⟩ := HC'.out _ _ hm3
    clear hm3
    go_wp2_with fail
    refine (refIdentity_any n _).mono ?_
    rintro e w4 ⟨hm4, hb4⟩
    obtain ⟨v4, rfl, hv4⟩ := HC'.out _ _ hm4
    clear hm4
    obtain ⟨A1, c1, rfl, hc1, hs1⟩ := ((hv1.mono hb2).mono hb3).mono hb4
    obtain ⟨A2, c2, rfl, hc2, hs2⟩ := (hv2.mono hb3).mono hb4
    obtain ⟨A3, c3, rfl, hc3, hs3⟩ := hv3.mono hb4
    obtain ⟨A4, c4, rfl, hc4, hs4⟩ := hv4
    clear hv1 hv2 hv3
    go_wp2_with fail
    refine (refSame_any A1 A2 c1 c2 l l _ hs1 hs2 hll hll).mono ?_
    rintro e w5 ⟨rfl, hb5⟩
    rw [sameB_self]
    go_wp2_with fail
    refine (refSame_any A3 A4 c3 c4 l' l' _ (hs3.mono hb5) (hs4.mono hb5) hll' hll').mono ?_
    rintro e w6 ⟨rfl, hb6⟩
    rw [sameB_self]
    go_wp2_with fail
    refine (knows_any _).mono ?_
    rintro e w7 ⟨rfl, hb7⟩
    go_wp2_with fail
    go_ret
    exact ⟨rfl, below_step (below_step (below_step (below_step (below_step (below_step hb1 hb2) hb3) hb4) hb5) hb6) hb7⟩
end Go.Proofs.Ytcmooklcaeggbaa
