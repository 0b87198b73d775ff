/-
  Chapter 29: the examples of the chapter (knows).
-/
import Derived.Test.YtcmooklcaeggbaaFlowC
import Derived.Test.YtcmooklcaeggbaaFlowH
namespace Go.Proofs.Ytcmooklcaeggbaa
open Go.RowKit
set_option linter.unusedVariables false

theorem Sl.of_lit {w : World} {t : TypeId} (l : List Int) : Sl Lay.int (w.alloc (.cells (l.map (Value.int .i64)).toArray t)) (some ⟨w.heap.size, 0, none⟩) l := fun i x hx => by
  refine ⟨w.heap.size, 0, [.int .i64 x], rfl, by simp, rfl, fun j v hj => ?_⟩
  have hi : i < l.length := (List.getElem?_eq_some_iff.1 hx).1
  match j, hj with
  | 0, hj =>
    simp at hj
    subst hj
    simp [Lay.int, Lay.plain, hx]

theorem makeBad_ex : ¬ makeBad 3 [1] [1, 2] := by unfold makeBad; decide
theorem makeL_ex : makeL (3 : Int).toNat [1] [1, 2] = [(0, 0), (0, 1)] := by decide
theorem checkE_ex : checkE [] 1 = 1 := by decide

set_option maxHeartbeats 400000 in
theorem knows_any (w : World) : Calls Try.prog 14 #[] w fun e w' => e = .returned (.bool true) ∧ Below w.heap.size w w' := by
  have hpe := pair_eql
  have hpg := pairGuard
  go_enter Try.func14, Try.ntmps14
  go_wp2_with fail
  refine (flowMake_any (some ⟨w.heap.size, 0, none⟩) (some ⟨w.heap.size + 1, 0, none⟩) 1 2 3 [1] [1, 2] _ ((Sl.of_lit [1]).mono (bw_alloc (Below.refl _ _))) ?_ (by simp) (by simp)).mono ?_
  · have := Sl.of_lit (w := w.alloc (.cells #[.int .i64 1] 3)) (t := 3) [1, 2]
    simpa using this
  rintro e w1 ⟨hm, hb1⟩
  obtain ⟨v, rfl, hv⟩ := hm.2 makeBad_ex
  rw [makeL_ex] at hv
  obtain ⟨A, c, rfl, hc, hs⟩ := hv
  obtain ⟨b, o, rfl, hb, d0, d1⟩ := hs.int2_at (i := 1) (by simp)
  simp at d0 d1
  have hbw1 : Below w.heap.size w w1 := below_step (bw_alloc (bw_alloc (Below.refl _ _))) hb1
  go_wp2_with fail
  refine (flowCheck_any none 0 [] 1 _ Sl.nil (by simp)).mono ?_
  rintro e w2 ⟨rfl, hb2⟩
  rw [checkE_ex]
  go_wp2_with fail
  go_ret
  exact ⟨rfl, (by repeat (first | assumption | exact Below.refl _ _ | apply bw_alloc | apply bw_drew | apply bw_drewN | apply bw_later | apply bw_step))⟩
end Go.Proofs.Ytcmooklcaeggbaa
