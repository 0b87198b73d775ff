/-
  Chapter 29: Compose and Union of the reference.
-/
import Derived.Test.YtcmooklcaeggbaaFlowV
namespace Go.Proofs.Ytcmooklcaeggbaa
open Go.RowKit
set_option linter.unusedVariables false

/-- One after the other into its place. -/
def insAll (l : List (Int × Int)) : List (Int × Int) := l.foldl (withO ltP) []
theorem insAll_snoc (l : List (Int × Int)) (x : Int × Int) : insAll (l ++ [x]) = withO ltP (insAll l) x := by unfold insAll; rw [List.foldl_append]; rfl
theorem insAll_spec (l : List (Int × Int)) : Asc ltP (insAll l) ∧ (∀ x, x ∈ insAll l ↔ x ∈ l) ∧ (insAll l).length ≤ l.length := by
  suffices ∀ k, Asc ltP (insAll (l.take k)) ∧ (∀ x, x ∈ insAll (l.take k) ↔ x ∈ l.take k) ∧ (insAll (l.take k)).length ≤ (l.take k).length by have := this l.length; rwa [List.take_length] at this
  intro k
  induction k with
  | zero => simp [insAll, Asc]
  | succ k ih =>
    rcases Nat.lt_or_ge k l.length with hk | hk
    · obtain ⟨h1, h2, h3⟩ := ih
      rw [List.take_succ_eq_append_getElem hk, insAll_snoc]
      obtain ⟨s1, s2⟩ := withO_spec totP (d := l[k]) h1
      refine ⟨s1, fun x => by rw [s2, h2, List.mem_append, List.mem_singleton], ?_⟩
      have := withO_len (lt := ltP) (insAll (l.take k)) l[k]
      rw [List.length_append]
      simp only [List.length_singleton]
      omega
    · rw [List.take_of_length_le (by omega)]; rwa [List.take_of_length_le (by omega)] at ih
theorem insAll_eq (l : List (Int × Int)) : insAll l = ascP l := by
  obtain ⟨h1, h2, _⟩ := insAll_spec l
  obtain ⟨h3, h4⟩ := ascP_spec l
  exact Asc.ext totP h1 h3 fun x => (h2 x).trans (h4 x).symm
def rowC (a : Int × Int) (g : List (Int × Int)) : List (Int × Int) := (withIn g a.2).map fun q => (a.1, q.2)
theorem rowC_len (a : Int × Int) (g : List (Int × Int)) : (rowC a g).length ≤ g.length := by unfold rowC withIn; rw [List.length_map]; exact List.length_filter_le _ _
theorem rowC_yes {a : Int × Int} {g : List (Int × Int)} {j : Nat} (hj : j < g.length) (h : a.2 = g[j].1) : rowC a (g.take (j + 1)) = rowC a (g.take j) ++ [(a.1, g[j].2)] := by
  rw [List.take_succ_eq_append_getElem hj]; unfold rowC withIn; rw [List.filter_append, List.map_append]; congr 1; simp [h]
theorem rowC_no {a : Int × Int} {g : List (Int × Int)} {j : Nat} (hj : j < g.length) (h : a.2 ≠ g[j].1) : rowC a (g.take (j + 1)) = rowC a (g.take j) := by
  rw [List.take_succ_eq_append_getElem hj]; unfold rowC withIn; rw [List.filter_append, List.map_append, List.filter_cons_of_neg (by simpa using Ne.symm h)]; simp only [List.filter_nil, List.map_nil, List.append_nil]
def cl (f g : List (Int × Int)) : List (Int × Int) := f.flatMap fun p => rowC p g
theorem cl_len (f g : List (Int × Int)) : (cl f g).length ≤ f.length * g.length := flatMap_le _ _ (fun x => rowC_len x g) f
theorem cl_snoc (f g : List (Int × Int)) (a : Int × Int) : cl (f ++ [a]) g = cl f g ++ rowC a g := by unfold cl; rw [List.flatMap_append]; simp
theorem compS_cl (f g : List (Int × Int)) : insAll (cl f g) = compS f g := insAll_eq _
theorem FlowV.len {w : World} {A : Option Addr} {n c : Nat} {l : List (Int × Int)} (h : FlowV w (.slice A n c) l) : n = l.length := by
  obtain ⟨A', c', e, _, _⟩ := h; exact (Value.slice.inj e).2.1

set_option maxRecDepth 100000 in
set_option maxHeartbeats 1000000 in
theorem refCompose_any (A B : Option Addr) (cA cB : Nat) (f g : List (Int × Int)) (w : World) (hlf : f.length ≤ 100) (hlg : g.length ≤ 100) (hf : Sl Lay.int2 w A f) (hg : Sl Lay.int2 w B g) :
    Calls Try.prog 23 #[.slice A f.length cA, .slice B g.length cB] w fun e w' => (∃ v, e = .returned v ∧ FlowV w' v (compS f g)) ∧ Below w.heap.size w w' := by
  go_enter Try.func23, Try.ntmps23
  go_wp2_with fail
  go_loopw [5, 6] (fun v i wr => ∃ k : Nat, k ≤ f.length ∧ i = .int .i64 k ∧ FlowV wr v (insAll (cl (f.take k) g)) ∧ Below w.heap.size w wr) (fun _ i _ => f.length - (intOf i).toNat)
  case atStart => exact ⟨0, Nat.zero_le _, rfl, FlowV.nil, Below.refl _ _⟩
  case round =>
    obtain ⟨k, hk, rfl, hv, hbw⟩ := hrel
    by_cases hlt : k < f.length
    · have HCS := Lib.hid (cl_snoc (f.take k) g f[k])
      rw [← List.take_succ_eq_append_getElem hlt] at HCS
      have hcl : (cl (f.take k) g).length ≤ 100 * 100 := Nat.le_trans (cl_len _ _) (Nat.mul_le_mul (by rw [List.length_take]; omega) hlg)
      generalize cl (f.take k) g = P at *
      go_wp2_with fail
      obtain ⟨wo, rfl⟩ : ∃ wo : World, wo = wr := ⟨_, rfl⟩
      go_loopw [5, 7] (fun v i wr => ∃ j : Nat, j ≤ g.length ∧ i = .int .i64 j ∧ FlowV wr v (insAll (P ++ rowC f[k] (g.take j))) ∧ Below w.heap.size w wr) (fun _ i _ => g.length - (intOf i).toNat)
      case atStart => exact ⟨0, Nat.zero_le _, rfl, by simpa [rowC, withIn] using hv, hbw⟩
      case round =>
        clear hv hbw
        obtain ⟨j, hj, rfl, hv, hbw⟩ := hrel
        by_cases hjt : j < g.length
        · obtain ⟨b, o, rfl, hb, c0, c1⟩ := (hf.mono hbw).int2_at hlt
          obtain ⟨b', o', rfl, hb', c0', c1'⟩ := (hg.mono hbw).int2_at hjt
          have hll : (insAll (P ++ rowC f[k] (g.take j))).length ≤ 20000 := by
            have h1 := (insAll_spec (P ++ rowC f[k] (g.take j))).2.2
            have h2 := rowC_len f[k] (g.take j)
            rw [List.length_append] at h1
            rw [List.length_take] at h2
            omega
          by_cases he : f[k].2 = g[j].1
          · have HR := Lib.hid (rowC_yes hjt he)
            have e1 : (f[k].2 == g[j].1) = true := by simp [he]
            clear he
            go_wp2_with fail
            refine wp_region_later (by kernel_rfl) (by kernel_rfl) ?_
            repeat (go_big_quiet_step (fail))
            refine wpQuiet_nil ?_
            rintro _ ⟨x, rfl⟩
            have hbx := bw_later (x := x) hbw
            have hvx := hv.mono x.h
            generalize x.W = w1 at *
            clear x hv hbw c0 c1 c0' c1' hb hb'
            obtain ⟨c0, c1, hb⟩ := pair_same (hf.mono hbx) hlt
            obtain ⟨c0', c1', hb'⟩ := pair_same (hg.mono hbx) hjt
            obtain ⟨A1, n1, rfl, hc1, hs1⟩ := hvx
            go_wp2_with fail
            refine wp_region_later_tail 12 (by kernel_rfl) (by kernel_rfl) ?_
            simp only [List.take_succ_cons, List.take_zero, List.drop_succ_cons, List.drop_zero]
            repeat (go_big_quiet_step (fail))
            refine wpQuiet_nil ?_
            rintro _ ⟨x, rfl⟩
            have hby := bw_later (x := x) hbx
            have hsy := hs1.mono x.h
            generalize x.W = w2 at *
            clear x
            go_wp2_with fail
            refine (refWith_any A1 n1 _ (f[k].1, g[j].2) _ (by omega) hc1 hsy).mono ?_
            rintro e w3 ⟨⟨v3, rfl, hv3⟩, hb3⟩
            go_wp2_with fail
            go_roundw
            case rel => exact ⟨j + 1, by omega, by go_num, by rw [HR.out, ← List.append_assoc, insAll_snoc]; exact hv3, below_step hby hb3⟩
            case measure => simp [intOf]; omega
          · have HR := Lib.hid (rowC_no hjt he)
            have e1 : (f[k].2 == g[j].1) = false := by simpa using he
            clear he
            go_wp2_with fail
            refine wp_region_later (by kernel_rfl) (by kernel_rfl) ?_
            repeat (go_big_quiet_step (fail))
            refine wpQuiet_nil ?_
            rintro _ ⟨x, rfl⟩
            have hbx := bw_later (x := x) hbw
            have hvx := hv.mono x.h
            go_wp2_with fail
            go_roundw
            case rel => exact ⟨j + 1, by omega, by go_num, by rw [HR.out]; exact hvx, hbx⟩
            case measure => simp [intOf]; omega
        · rw [List.take_of_length_le (by omega), ← HCS.out] at hv
          go_wp2_with fail
          go_roundw
          case rel => exact ⟨k + 1, by omega, by go_num, hv, hbw⟩
          case measure => simp [intOf]; omega
    · rw [List.take_of_length_le (by omega), compS_cl] at hv
      go_wp2_with fail
      go_ret
      exact ⟨⟨_, rfl, hv⟩, hbw⟩

set_option maxRecDepth 100000 in
set_option maxHeartbeats 1000000 in
theorem refUnion_any (A B : Option Addr) (cA cB : Nat) (f g : List (Int × Int)) (w : World) (hlf : f.length ≤ 100) (hlg : g.length ≤ 100) (hf : Sl Lay.int2 w A f) (hg : Sl Lay.int2 w B g) :
    Calls Try.prog 25 #[.slice A f.length cA, .slice B g.length cB] w fun e w' => (∃ v, e = .returned v ∧ FlowV w' v (ascP (f ++ g))) ∧ Below w.heap.size w w' := by
  go_enter Try.func25, Try.ntmps25
  go_wp2_with fail
  go_loopw [5, 6] (fun v i wr => ∃ k : Nat, k ≤ f.length ∧ i = .int .i64 k ∧ FlowV wr v (insAll (f.take k)) ∧ Below w.heap.size w wr) (fun _ i _ => f.length - (intOf i).toNat)
  case atStart => exact ⟨0, Nat.zero_le _, rfl, FlowV.nil, Below.refl _ _⟩
  case round =>
    obtain ⟨k, hk, rfl, hv, hbw⟩ := hrel
    by_cases hlt : k < f.length
    · obtain ⟨b, o, rfl, hb, c0, c1⟩ := (hf.mono hbw).int2_at hlt
      have hll : (insAll (f.take k)).length ≤ 20000 := by
        have h1 := (insAll_spec (f.take k)).2.2
        rw [List.length_take] at h1
        omega
      have HR := Lib.hid (insAll_snoc (f.take k) f[k])
      rw [← List.take_succ_eq_append_getElem hlt] at HR
      obtain ⟨A1, n1, rfl, hc1, hs1⟩ := hv
      go_wp2_with fail
      refine (refWith_any A1 n1 _ f[k] _ (by omega) hc1 hs1).mono ?_
      rintro e w3 ⟨⟨v3, rfl, hv3⟩, hb3⟩
      go_wp2_with fail
      go_roundw
      case rel => exact ⟨k + 1, by omega, by go_num, by rw [HR.out]; exact hv3, below_step hbw hb3⟩
      case measure => simp [intOf]; omega
    · rw [List.take_of_length_le (by omega)] at hv
      have hlf2 := Nat.le_trans (insAll_spec f).2.2 hlf
      go_wp2_with fail
      obtain ⟨wo, rfl⟩ : ∃ wo : World, wo = wr := ⟨_, rfl⟩
      go_loopw [5, 7] (fun v i wr => ∃ k : Nat, k ≤ g.length ∧ i = .int .i64 k ∧ FlowV wr v (insAll (f ++ g.take k)) ∧ Below w.heap.size w wr) (fun _ i _ => g.length - (intOf i).toNat)
      case atStart => exact ⟨0, Nat.zero_le _, rfl, by simpa using hv, hbw⟩
      case round =>
        clear hv hbw
        obtain ⟨j, hj, rfl, hv, hbw⟩ := hrel
        by_cases hjt : j < g.length
        · obtain ⟨b, o, rfl, hb, c0, c1⟩ := (hg.mono hbw).int2_at hjt
          have hll : (insAll (f ++ g.take j)).length ≤ 20000 := by
            have h1 := (insAll_spec (f ++ g.take j)).2.2
            rw [List.length_append, List.length_take] at h1
            omega
          have HR := Lib.hid (insAll_snoc (f ++ g.take j) g[j])
          rw [List.append_assoc, ← List.take_succ_eq_append_getElem hjt] at HR
          obtain ⟨A1, n1, rfl, hc1, hs1⟩ := hv
          go_wp2_with fail
          refine (refWith_any A1 n1 _ g[j] _ (by omega) hc1 hs1).mono ?_
          rintro e w3 ⟨⟨v3, rfl, hv3⟩, hb3⟩
          go_wp2_with fail
          go_roundw
          case rel => exact ⟨j + 1, by omega, by go_num, by rw [HR.out]; exact hv3, below_step hbw hb3⟩
          case measure => simp [intOf]; omega
        · rw [List.take_of_length_le (by omega), insAll_eq] at hv
          go_wp2_with fail
          go_ret
          exact ⟨⟨_, rfl, hv⟩, hbw⟩
end Go.Proofs.Ytcmooklcaeggbaa
