/-
  Chapter 29: Union of the program (slices.Grow, slices.Concat).
-/
import Derived.Test.YtcmooklcaeggbaaFlowW
import Derived.Test.YtcmooklcaeggbaaLibF
namespace Go.Proofs.Ytcmooklcaeggbaa
open Go.RowKit
set_option linter.unusedVariables false

theorem intUnder : Try.prog.underlying 3 = some (.int .i64) := Try.underlying3

set_option maxRecDepth 100000 in
set_option maxHeartbeats 1000000 in
theorem growPairs_any (n : Nat) (hn : n ≤ 1000) (w : World) :
    Calls Try.prog 53 #[.slice none 0 0, .int .i64 n] w fun e w' => (∃ v, e = .returned v ∧ Own cellsInt2 2 w.heap.size 46 w' v []) ∧ Below w.heap.size w w' := by
  go_enter Try.func53, Try.ntmps53
  by_cases h0 : n = 0
  · subst h0
    go_wp2_with fail
    go_ret
    exact ⟨⟨_, rfl, Own.nil⟩, Below.refl _ _⟩
  · obtain ⟨i, hi, hz, hsz, hby⟩ := info_parts pairTy.info
    have happ := fun W => Lib.run_append_nil_zeros (P := Try.prog) W 24 3 24 46 i _ .i64 .i64 pairTy.under intUnder hi hz n (by omega) (by omega) (by omega) (by rw [hby]; omega)
    go_wp2_with (at_builtin; refine Lib.wpList_append_run _ rfl _ _ _ _ rfl _ _ rfl rfl _ _ (happ _) ?_)
    have hge := grownCap_ge w n 0 46
    have hle := grownCap_le_maxLen w n 0 46 (by unfold maxLen; omega)
    go_ret
    refine ⟨⟨_, rfl, ⟨by simp, .inr ⟨w.heap.size, grownCap w n 0 46, _, rfl, Nat.le_refl _, heap_alloc_new w _, Nat.zero_le _, hle, ?_, by simp⟩⟩⟩, (bw_alloc (Below.refl _ _)).drew⟩
    simp only [Array.size_append, size_zeroCells]
    simp
    omega

/-- The cells of a list of two flows. -/
theorem cells_of_two (w : World) (u1 u2 : Value) (t : TypeId) : (w.alloc (.cells #[u1, u2] t)).cell? ⟨w.heap.size, 0, none⟩ = some u1 ∧ (w.alloc (.cells #[u1, u2] t)).cell? ⟨w.heap.size, 1, none⟩ = some u2 := ⟨cells_two_new w u1 u2 t 0 _ rfl, cells_two_new w u1 u2 t 1 _ rfl⟩

theorem sl_cells {w : World} {A : Option Addr} {l : List (Int × Int)} (h : Sl Lay.int2 w A l) : ∀ i x, l[i]? = some x → ∃ b o, A = some ⟨b, o, none⟩ ∧ ∀ j v, (cellsInt2 x)[j]? = some v → w.cell? ⟨b, o + i * 2 + j, none⟩ = some v := fun i x hx => by
  obtain ⟨b, o, vs, e, hlt, hr, hc⟩ := h i x hx
  have hr' : vs = cellsInt2 x := hr
  subst hr'
  exact ⟨b, o, e, hc⟩

set_option maxRecDepth 100000 in
set_option maxHeartbeats 1000000 in
theorem concatPairs_any (A B : Option Addr) (cA cB b : Nat) (f g : List (Int × Int)) (w : World) (hlf : f.length ≤ 100) (hlg : g.length ≤ 100) (hf : Sl Lay.int2 w A f) (hg : Sl Lay.int2 w B g)
    (hb : b < w.heap.size) (c0 : w.cell? ⟨b, 0, none⟩ = some (.slice A f.length cA)) (c1 : w.cell? ⟨b, 1, none⟩ = some (.slice B g.length cB)) :
    Calls Try.prog 41 #[.slice (some ⟨b, 0, none⟩) 2 2] w fun e w' => (∃ v, e = .returned v ∧ FlowV w' v (f ++ g)) ∧ Below w.heap.size w w' := by
  go_enter Try.func41, Try.ntmps41
  go_wp2_with fail
  have HGR := growPairs_any (f.length + g.length) (by omega)
  rw [Int.natCast_add] at HGR
  refine wp_loop_rounds 3 ?_
  rw [rounds_succ]
  go_wp2_with fail
  rw [rounds_succ]
  go_wp2_with fail
  rw [rounds_succ]
  go_wp2_with fail
  refine (HGR _).mono ?_
  rintro e w1 ⟨⟨v1, rfl, hown1⟩, hb1⟩
  clear HGR
  have d0 := box_kept c0 hb hb1
  have d1 := box_kept c1 hb hb1
  have hf1 := hf.mono hb1
  have hsz := hb1.size
  go_wp2_with fail
  refine wp_loop_rounds 3 ?_
  rw [rounds_succ]
  go_wp2_with (at_builtin; refine wpList_appendAll pairTy cellsInt2_ok rfl (.tmp 31) (.tmp 32) rfl w.heap.size _ [] rfl hown1 A cA f rfl (sl_cells hf1) (by unfold maxLen; simp; omega) (by simp; omega) hsz ?_; intro v2 w2 hown2 hb2 hg2)
  rw [List.nil_append] at hown2
  have hbw2 := hb1.trans hb2
  have e0 := box_kept c0 hb hbw2
  have e1 := box_kept c1 hb hbw2
  have hg2' := hg.mono hbw2
  have hsz2 := hbw2.size
  rw [rounds_succ]
  go_wp2_with (at_builtin; refine wpList_appendAll pairTy cellsInt2_ok rfl (.tmp 31) (.tmp 32) rfl w.heap.size _ f rfl hown2 B cB g rfl (sl_cells hg2') (by unfold maxLen; omega) (by omega) hsz2 ?_; intro v3 w3 hown3 hb3 hg3)
  rw [rounds_succ]
  go_wp2_with fail
  go_ret
  exact ⟨⟨_, rfl, FlowV.of_own hown3⟩, hbw2.trans hb3⟩
end Go.Proofs.Ytcmooklcaeggbaa
