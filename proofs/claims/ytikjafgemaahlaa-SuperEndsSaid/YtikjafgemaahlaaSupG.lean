/-
  Chapter 27: the program's Check of a graph whose edges all stay within functions.
-/
import Derived.Test.YtikjafgemaahlaaSupF
import Derived.Test.YtikjafgemaahlaaMap
namespace Go.Proofs.Ytikjafgemaahlaa
open Go.RowKit
set_option linter.unusedVariables false

set_option maxRecDepth 100000 in
set_option maxHeartbeats 2000000 in
theorem matches_any (A0 A1 : Option Addr) (c0 c1 : Nat) (N : List Nd) (E : List Sed) (m : Int) (i j : Nat) (u1 u2 : Value) (w : World) (hs : Sl Lay.nd w A0 N) (hi : i < N.length) (hj : j < N.length) (hl : N.length ≤ 1000000) (hf : N[i].fn = N[j].fn) (hk : N[i].kind = 1 ∨ N[i].kind = 2) (hk2 : N[j].kind ≠ 1) :
    Calls Try.prog 27 #[.agg #[.slice A0 N.length c0, .slice A1 E.length c1, .int .i64 m], u1, u2, .agg #[.int .i64 i, .int .i64 j, .int .i64 1, .int .i64 (-1)]] w fun e w' => e = .returned (.bool true) ∧ Below w.heap.size w w' := by
  have hb0 : Below w.heap.size w ((w.alloc (.cells #[.slice A0 N.length c0, .slice A1 E.length c1, .int .i64 m] 25)).alloc (.cells #[.int .i64 i, .int .i64 j, .int .i64 1, .int .i64 (-1)] 33)) := (by repeat (first | assumption | exact Below.refl _ _ | apply bw_alloc | apply bw_drew | apply bw_drewN | apply bw_later | apply bw_step))
  have bx0 : Box ((w.alloc (.cells #[.slice A0 N.length c0, .slice A1 E.length c1, .int .i64 m] 25)).alloc (.cells #[.int .i64 i, .int .i64 j, .int .i64 1, .int .i64 (-1)] 33)) w.heap.size [.slice A0 N.length c0, .slice A1 E.length c1, .int .i64 m] 25 := (Box.new _ _ _).alloc _
  have by0 : Box ((w.alloc (.cells #[.slice A0 N.length c0, .slice A1 E.length c1, .int .i64 m] 25)).alloc (.cells #[.int .i64 i, .int .i64 j, .int .i64 1, .int .i64 (-1)] 33)) (w.heap.size + 1) [.int .i64 i, .int .i64 j, .int .i64 1, .int .i64 (-1)] 33 := Box.at (by simp)
  have HF := Lib.hid hf
  have HK := Lib.hid hk
  have HK2 := Lib.hid hk2
  clear hf hk hk2
  go_enter Try.func27, Try.ntmps27
  go_upto_region 1 with fail
  generalize hW : World.alloc _ _ = W0 at *
  clear hW
  have hbl := bx0.lt
  have hyl := by0.lt
  have x0 := bx0.cell 0 rfl
  have y0 := by0.cell 0 rfl
  have y1 := by0.cell 1 rfl
  obtain ⟨b, o, e1, hb, d0, d1, d2⟩ := (hs.mono hb0).nd_at hi
  subst e1
  obtain ⟨b', o', e2, hb', e0, e1, e2'⟩ := (hs.mono hb0).nd_at hj
  obtain ⟨rfl, rfl⟩ : b = b' ∧ o = o' := by simpa using e2
  go_cut [9, 10] (fun p5 p6 wx => ∃ g5 g6, p5 = .pointer (some ⟨g5, 0, none⟩) ∧ p6 = .pointer (some ⟨g6, 0, none⟩) ∧ Box wx g5 (cellsNd N[i]) 36 ∧ Box wx g6 (cellsNd N[j]) 36 ∧ Below W0.heap.size W0 wx)
  case first =>
    refine wp_region_RZ 16 (by kernel_rfl) (by kernel_rfl) ?_
    refine RZ.chunk (f := 4) [0, 1, 2, 3, 4, 5, 6, 7, 8, 9, 10, 11] (by kernel_rfl) ?_
    ((simp only [pickOps, List.filterMap, List.getElem?_toArray, List.getElem?_cons_zero, List.getElem?_cons_succ]); (repeat (go_big_quiet_step (fail))); refine wpQuiet_nil ?_)
    refine RZ.both 12 13 rfl rfl (by kernel_rfl) (by omega) (by omega) ?_ ?_
    · intro K hK
      go_wp2_with fail
      refine hK _ _ (bw_alloc (Below.refl _ _)) ?_
      clear hK
      refine RZ.single 13 rfl (by kernel_rfl) (by omega) ?_
      intro K hK
      go_wp2_with fail
      refine hK _ _ (bw_alloc (bw_alloc (Below.refl _ _))) ?_
      clear hK
      generalize hW : World.drew (World.alloc (World.alloc _ _) _) = W2
      have hb2 : Below W0.heap.size W0 W2 := by rw [← hW]; exact (by repeat (first | assumption | exact Below.refl _ _ | apply bw_alloc | apply bw_drew | apply bw_drewN | apply bw_later | apply bw_step))
      have b5 : Box W2 W0.heap.size [.int .i64 0, .int .i64 0, .int .i64 0] 36 := by rw [← hW]; exact (by repeat (first | (refine Box.at ?_; (simp; done)) | apply Box.drew | apply Box.alloc | assumption))
      have b6 : Box W2 (W0.heap.size + 1) [.int .i64 0, .int .i64 0, .int .i64 0] 36 := by rw [← hW]; exact (by repeat (first | (refine Box.at ?_; (simp; done)) | apply Box.drew | apply Box.alloc | assumption))
      clear hW
      have l5 := b5.lt
      have f5 := fun i => b5.free i
      have z0 := b5.cell 0 rfl
      have z1 := b5.cell 1 rfl
      have z2 := b5.cell 2 rfl
      obtain ⟨b5', hg5⟩ := b5.store3 (.int .i64 N[i].fn) (.int .i64 N[i].kind) (.int .i64 N[i].instr)
      have b6' := b6.grown hg5 (by simp)
      have hb3 := hb2.grown hg5 hb2.size (fun k hk => by injection hk with hk; omega)
      refine RZ.single 14 rfl (by kernel_rfl) (by omega) ?_
      intro K hK
      go_wp2_with fail
      refine hK _ _ (below_undrew hb3) ?_
      clear hK
      generalize World.setCell (World.setCell (World.setCell _ _ _) _ _) _ _ = W3 at *
      clear z0 z1 z2 f5
      have l6 := b6'.lt
      have f6 := fun i => b6'.free i
      have u0 := b6'.cell 0 rfl
      have u1 := b6'.cell 1 rfl
      have u2 := b6'.cell 2 rfl
      obtain ⟨b6'', hg6⟩ := b6'.store3 (.int .i64 N[j].fn) (.int .i64 N[j].kind) (.int .i64 N[j].instr)
      have b5'' := b5'.grown hg6 (by simp)
      have hb4 := hb3.grown hg6 hb3.size (fun k hk => by injection hk with hk; omega)
      refine RZ.single 15 rfl (by kernel_rfl) (by omega) ?_
      intro K hK
      go_wp2_with fail
      refine hK _ _ (below_undrew hb4) ?_
      clear hK
      (refine RZ.done (by kernel_rfl) (by kernel_rfl) ?_)
      go_wp2_with fail
      go_meet
      exact ⟨_, _, rfl, rfl, b5'', b6'', hb4⟩
    · intro K hK
      go_wp2_with fail
      refine hK _ _ (bw_alloc (Below.refl _ _)) ?_
      clear hK
      refine RZ.single 12 rfl (by kernel_rfl) (by omega) ?_
      intro K hK
      go_wp2_with fail
      refine hK _ _ (bw_alloc (bw_alloc (Below.refl _ _))) ?_
      clear hK
      generalize hW : World.drew (World.alloc (World.alloc _ _) _) = W2
      have hb2 : Below W0.heap.size W0 W2 := by rw [← hW]; exact (by repeat (first | assumption | exact Below.refl _ _ | apply bw_alloc | apply bw_drew | apply bw_drewN | apply bw_later | apply bw_step))
      have b5 : Box W2 (W0.heap.size + 1) [.int .i64 0, .int .i64 0, .int .i64 0] 36 := by rw [← hW]; exact (by repeat (first | (refine Box.at ?_; (simp; done)) | apply Box.drew | apply Box.alloc | assumption))
      have b6 : Box W2 W0.heap.size [.int .i64 0, .int .i64 0, .int .i64 0] 36 := by rw [← hW]; exact (by repeat (first | (refine Box.at ?_; (simp; done)) | apply Box.drew | apply Box.alloc | assumption))
      clear hW
      have l5 := b5.lt
      have f5 := fun i => b5.free i
      have z0 := b5.cell 0 rfl
      have z1 := b5.cell 1 rfl
      have z2 := b5.cell 2 rfl
      obtain ⟨b5', hg5⟩ := b5.store3 (.int .i64 N[i].fn) (.int .i64 N[i].kind) (.int .i64 N[i].instr)
      have b6' := b6.grown hg5 (by simp)
      have hb3 := hb2.grown hg5 hb2.size (fun k hk => by injection hk with hk; omega)
      refine RZ.single 14 rfl (by kernel_rfl) (by omega) ?_
      intro K hK
      go_wp2_with fail
      refine hK _ _ (below_undrew hb3) ?_
      clear hK
      generalize World.setCell (World.setCell (World.setCell _ _ _) _ _) _ _ = W3 at *
      clear z0 z1 z2 f5
      have l6 := b6'.lt
      have f6 := fun i => b6'.free i
      have u0 := b6'.cell 0 rfl
      have u1 := b6'.cell 1 rfl
      have u2 := b6'.cell 2 rfl
      obtain ⟨b6'', hg6⟩ := b6'.store3 (.int .i64 N[j].fn) (.int .i64 N[j].kind) (.int .i64 N[j].instr)
      have b5'' := b5'.grown hg6 (by simp)
      have hb4 := hb3.grown hg6 hb3.size (fun k hk => by injection hk with hk; omega)
      refine RZ.single 15 rfl (by kernel_rfl) (by omega) ?_
      intro K hK
      go_wp2_with fail
      refine hK _ _ (below_undrew hb4) ?_
      clear hK
      (refine RZ.done (by kernel_rfl) (by kernel_rfl) ?_)
      go_wp2_with fail
      go_meet
      exact ⟨_, _, rfl, rfl, b5'', b6'', hb4⟩
  case rest =>
    obtain ⟨g5, g6, rfl, rfl, b5, b6, hb1⟩ := hcut
    have by1 := by0.mono hb1
    have hbW := below_step hb0 hb1
    have yl := by1.lt
    have l5 := b5.lt
    have l6 := b6.lt
    have t2 := by1.cell 2 rfl
    have p0 := b5.cell 0 rfl
    have p1 := b5.cell 1 rfl
    have q0 := b6.cell 0 rfl
    have q1 := b6.cell 1 rfl
    clear x0 y0 y1 d0 d1 d2 e0 e1 e2' e2 hb hb' hbl hyl bx0 by0 hb0 hb1
    have hf := HF.out
    rw [hf] at p0
    have n1 : (N[j].kind != 1) = true := by simpa using HK2.out
    clear hf
    rcases HK.out with h | h
    · rw [h] at p1
      go_wp2_with fail
      go_ret
      exact ⟨rfl, hbW⟩
    · rw [h] at p1
      go_wp2_with fail
      go_ret
      exact ⟨rfl, hbW⟩
end Go.Proofs.Ytikjafgemaahlaa
