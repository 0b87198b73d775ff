/-
  Chapter 10: the law HierOf.
-/
import Derived.Test.YtafincpkehlcfaaOfE
import Derived.Test.YtafincpkehlcfaaHierJ
namespace Go.Proofs.Ytafincpkehlcfaa
open Go.RowKit
set_option linter.unusedVariables false

theorem lenOk_of {cs : List SCls} (h : SrcOk cs) : LenOk (cs.map ofC) := fun x hx => by
  obtain ⟨c, hc, rfl⟩ := List.mem_map.1 hx
  obtain ⟨h1, h2, h3⟩ := h.2 c hc
  refine ⟨by show c.fields.length ≤ _; omega, by show (c.methods.map ofM).length ≤ _; rw [List.length_map]; omega, fun m hm => ?_⟩
  obtain ⟨m', hm', rfl⟩ := List.mem_map.1 hm
  have := h3 m' hm'
  unfold MthOk at this
  show (m'.params.map (·.typ)).length ≤ _
  rw [List.length_map]; omega

set_option maxRecDepth 100000 in
set_option maxHeartbeats 1000000 in
theorem walk_HierOf (w : World) (A : Option Addr) (c : Nat) (cs : List SCls) (hs : Sl Lay.sCls w A cs) (hok : Hid (SrcOk cs)) :
    Calls Try.prog 3 #[.agg #[.slice A cs.length c]] w fun e w' => e = .returned (.bool true) ∧ Below w.heap.size w w' := by
  have hb0 : Below w.heap.size w (w.alloc (.cells #[.slice A cs.length c] 24)) := (by repeat (first | assumption | exact Below.refl _ _ | apply bw_alloc | apply bw_drew | apply bw_drewN | apply bw_later | apply bw_step))
  have hl : cs.length ≤ 1759218604442 := by have := hok.out.1; omega
  go_enter Try.func3, Try.ntmps3
  go_upto_region 1 with fail
  generalize hW : World.alloc _ _ = W0
  rw [hW] at hb0
  have bx : Box W0 w.heap.size [.slice A cs.length c] 24 := by rw [← hW]; exact Box.new _ _ _
  clear hW
  have x0 := bx.cell 0 rfl
  have xl := bx.lt
  have hs0 := hs.mono hb0
  refine wp_region_RW 9 (by kernel_rfl) (by kernel_rfl) ?_
  refine RW.chunk (f := 7) [0, 2] (by kernel_rfl) ?_
  ((simp only [pickOps, List.filterMap, List.getElem?_toArray, List.getElem?_cons_zero, List.getElem?_cons_succ]); (repeat (go_big_quiet_step (fail))); refine wpQuiet_nil ?_)
  refine RW.single 1 rfl (by kernel_rfl) (by omega) ?_
  intro K hK
  go_wp2_with fail
  refine (of_any A c cs _ (hs0.mono (bw_drew (Below.refl _ _))) hok).mono ?_
  rintro e w1 ⟨⟨A1, c1, rfl, hc1, hs1⟩, hb1⟩
  go_wp2_with fail
  refine hK _ _ hb1 ?_
  clear hK
  have hb01 := below_step (bw_drew (Below.refl _ W0)) hb1
  refine RW.single 3 rfl (by kernel_rfl) (by omega) ?_
  intro K hK
  go_wp2_with fail
  refine (refOf_any A c cs _ (hs0.mono hb01) hok).mono ?_
  rintro e w2 ⟨⟨A2, c2, rfl, hc2, hs2⟩, hb2⟩
  go_wp2_with fail
  refine hK _ _ hb2 ?_
  clear hK
  refine RW.single 4 rfl (by kernel_rfl) (by omega) ?_
  intro K hK
  go_wp2_with fail
  refine (same_yes A1 A2 cs.length c1 c2 (cs.map ofC) _ (by simp) (by simp; omega) (lenOk_of hok.out) (hs1.mono hb2) hs2).mono ?_
  rintro e w3 ⟨rfl, hb3⟩
  go_wp2_with fail
  refine hK _ _ hb3 ?_
  clear hK
  refine RW.chunk (f := 3) [5] (by kernel_rfl) ?_
  ((simp only [pickOps, List.filterMap, List.getElem?_toArray, List.getElem?_cons_zero, List.getElem?_cons_succ]); (repeat (go_big_quiet_step (fail))); refine wpQuiet_nil ?_)
  refine RW.single 6 rfl (by kernel_rfl) (by omega) ?_
  intro K hK
  go_wp2_with fail
  refine (awake_any _).mono ?_
  rintro e w4 ⟨rfl, hb4⟩
  go_wp2_with fail
  refine hK _ _ hb4 ?_
  clear hK
  refine RW.chunk (f := 0) [7, 8] (by kernel_rfl) ?_
  ((simp only [pickOps, List.filterMap, List.getElem?_toArray, List.getElem?_cons_zero, List.getElem?_cons_succ]); (repeat (go_big_quiet_step (fail))); refine wpQuiet_nil ?_)
  (refine RW.done (by kernel_rfl) (by kernel_rfl) ?_)
  go_wp2_with fail
  go_ret
  exact ⟨rfl, below_step (below_step (below_step (below_step hb0 hb01) hb2) hb3) hb4⟩
end Go.Proofs.Ytafincpkehlcfaa
