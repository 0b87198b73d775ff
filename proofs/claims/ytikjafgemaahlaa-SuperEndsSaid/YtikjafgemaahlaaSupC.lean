/-
  Chapter 27: the reference's Check: where it returns OK, the nodes are ascending and have the numbers that their kinds ask for.
-/
import Derived.Test.YtikjafgemaahlaaSupB
import Derived.Test.YtikjafgemaahlaaRegZ
namespace Go.Proofs.Ytikjafgemaahlaa
open Go.RowKit
set_option linter.unusedVariables false

theorem below_undrew {w W : World} (h : Below w.heap.size w W) : Below w.drew.heap.size w.drew W := ⟨h.os, h.tape, h.output, h.size, h.block⟩

def RetB (e : Ending) : Prop := ∃ b : Bool, e = .returned (.bool b)

set_option maxHeartbeats 4000000 in
theorem calls_any (A0 A1 : Option Addr) (c0 c1 : Nat) (N : List Nd) (E : List Sed) (m x f : Int) (w : World) (hl : N.length ≤ 1000000) (hle : E.length ≤ 1000000) (hs : Sl Lay.nd w A0 N) (hse : Sl Lay.sed w A1 E) :
    Calls Try.prog 22 #[.agg #[.slice A0 N.length c0, .slice A1 E.length c1, .int .i64 m], .int .i64 x, .int .i64 f] w fun e w' => RetB e ∧ Below w.heap.size w w' := by
  have hb0 : Below w.heap.size w (w.alloc (.cells #[.slice A0 N.length c0, .slice A1 E.length c1, .int .i64 m] 25)) := (by repeat (first | assumption | exact Below.refl _ _ | apply bw_alloc | apply bw_drew | apply bw_drewN | apply bw_later | apply bw_step))
  have bx0 := Box.new w [.slice A0 N.length c0, .slice A1 E.length c1, .int .i64 m] 25
  go_enter Try.func22, Try.ntmps22
  go_wp2_with fail
  go_loopw [7, 8] (fun i i8 wr => ∃ k : Nat, k ≤ E.length ∧ i = .int .i64 k ∧ Box wr w.heap.size [.slice A0 N.length c0, .slice A1 E.length c1, .int .i64 m] 25 ∧ Below w.heap.size w wr) (fun i _ _ => E.length - (intOf i).toNat)
  case atStart => exact ⟨0, Nat.zero_le _, rfl, bx0, hb0⟩
  case round =>
    obtain ⟨k, hk, rfl, bx, hbw⟩ := hrel
    have hbl := bx.lt
    have x0 := bx.cell 0 rfl
    have x1 := bx.cell 1 rfl
    by_cases hlt : k < E.length
    · obtain ⟨b, o, rfl, hb, d0, d1, d2, d3⟩ := (hse.mono hbw).sed_at hlt
      by_cases q1 : E[k].kind = 2
      · by_cases q2 : E[k].src = x
        · by_cases q3 : 0 ≤ E[k].dst
          · by_cases q4 : E[k].dst < N.length
            · obtain ⟨j, hj⟩ := Int.eq_ofNat_of_zero_le q3
              have hjl : j < N.length := by omega
              rw [hj] at d1
              clear q3 q4 hj
              obtain ⟨b', o', rfl, hb', e0, e1, e2⟩ := (hs.mono hbw).nd_at hjl
              by_cases q5 : N[j].fn = f
              · by_cases q6 : N[j].kind = 1
                · go_wp2_with fail
                  go_ret
                  exact ⟨⟨_, rfl⟩, (by repeat (first | assumption | exact Below.refl _ _ | apply bw_alloc | apply bw_drew | apply bw_drewN | apply bw_later | apply bw_step))⟩
                · go_wp2_with fail
                  go_roundw
                  case rel => exact ⟨k + 1, by omega, by go_num, bx.alloc _, (by repeat (first | assumption | exact Below.refl _ _ | apply bw_alloc | apply bw_drew | apply bw_drewN | apply bw_later | apply bw_step))⟩
                  case measure => simp [intOf]; omega
              · go_wp2_with fail
                go_roundw
                case rel => exact ⟨k + 1, by omega, by go_num, bx.alloc _, (by repeat (first | assumption | exact Below.refl _ _ | apply bw_alloc | apply bw_drew | apply bw_drewN | apply bw_later | apply bw_step))⟩
                case measure => simp [intOf]; omega
            · go_wp2_with fail
              go_roundw
              case rel => exact ⟨k + 1, by omega, by go_num, bx.alloc _, (by repeat (first | assumption | exact Below.refl _ _ | apply bw_alloc | apply bw_drew | apply bw_drewN | apply bw_later | apply bw_step))⟩
              case measure => simp [intOf]; omega
          · go_wp2_with fail
            go_roundw
            case rel => exact ⟨k + 1, by omega, by go_num, bx.alloc _, (by repeat (first | assumption | exact Below.refl _ _ | apply bw_alloc | apply bw_drew | apply bw_drewN | apply bw_later | apply bw_step))⟩
            case measure => simp [intOf]; omega
        · go_wp2_with fail
          go_roundw
          case rel => exact ⟨k + 1, by omega, by go_num, bx.alloc _, (by repeat (first | assumption | exact Below.refl _ _ | apply bw_alloc | apply bw_drew | apply bw_drewN | apply bw_later | apply bw_step))⟩
          case measure => simp [intOf]; omega
      · go_wp2_with fail
        go_roundw
        case rel => exact ⟨k + 1, by omega, by go_num, bx.alloc _, (by repeat (first | assumption | exact Below.refl _ _ | apply bw_alloc | apply bw_drew | apply bw_drewN | apply bw_later | apply bw_step))⟩
        case measure => simp [intOf]; omega
    · go_wp2_with fail
      go_ret
      exact ⟨⟨_, rfl⟩, (by repeat (first | assumption | exact Below.refl _ _ | apply bw_alloc | apply bw_drew | apply bw_drewN | apply bw_later | apply bw_step))⟩

set_option maxRecDepth 100000 in
set_option maxHeartbeats 4000000 in
theorem fits_any (A0 A1 : Option Addr) (c0 c1 : Nat) (N : List Nd) (E : List Sed) (m : Int) (i j : Nat) (kind call : Int) (w : World) (hl : N.length ≤ 1000000) (hle : E.length ≤ 1000000) (hs : Sl Lay.nd w A0 N) (hse : Sl Lay.sed w A1 E) (hi : i < N.length) (hj : j < N.length) (hc : kind = 1 ∨ kind = 5 ∨ kind = 2 ∨ (kind ≠ 1 ∧ kind ≠ 5 ∧ kind ≠ 2 ∧ ∃ k : Nat, k < N.length ∧ call = k)) :
    Calls Try.prog 13 #[.agg #[.slice A0 N.length c0, .slice A1 E.length c1, .int .i64 m], .agg #[.int .i64 i, .int .i64 j, .int .i64 kind, .int .i64 call]] w fun e w' => RetB e ∧ Below w.heap.size w w' := by
  have hb0 : Below w.heap.size w ((w.alloc (.cells #[.slice A0 N.length c0, .slice A1 E.length c1, .int .i64 m] 25)).alloc (.cells #[.int .i64 i, .int .i64 j, .int .i64 kind, .int .i64 call] 33)) := (by repeat (first | assumption | exact Below.refl _ _ | apply bw_alloc | apply bw_drew | apply bw_drewN | apply bw_later | apply bw_step))
  have bx0 : Box ((w.alloc (.cells #[.slice A0 N.length c0, .slice A1 E.length c1, .int .i64 m] 25)).alloc (.cells #[.int .i64 i, .int .i64 j, .int .i64 kind, .int .i64 call] 33)) w.heap.size [.slice A0 N.length c0, .slice A1 E.length c1, .int .i64 m] 25 := (Box.new _ _ _).alloc _
  have by0 : Box ((w.alloc (.cells #[.slice A0 N.length c0, .slice A1 E.length c1, .int .i64 m] 25)).alloc (.cells #[.int .i64 i, .int .i64 j, .int .i64 kind, .int .i64 call] 33)) (w.heap.size + 1) [.int .i64 i, .int .i64 j, .int .i64 kind, .int .i64 call] 33 := Box.at (by simp)
  have HC := Lib.hid hc
  clear hc
  go_enter Try.func13, Try.ntmps13
  go_upto_region 1 with fail
  generalize hW : World.alloc _ _ = W0 at *
  clear hW
  have hbl := bx0.lt
  have hyl := by0.lt
  have x0 := bx0.cell 0 rfl
  have y0 := by0.cell 0 rfl
  have y1 := by0.cell 1 rfl
  obtain ⟨b, o, e1, hb, d0, d1, d2⟩ := (hs.mono hb0).nd_at hi
  subst e1
  obtain ⟨b', o', e2, hb', e0, e1, e2'⟩ := (hs.mono hb0).nd_at hj
  obtain ⟨rfl, rfl⟩ : b = b' ∧ o = o' := by simpa using e2
  go_cut [5, 6] (fun p5 p6 wx => ∃ g5 g6, p5 = .pointer (some ⟨g5, 0, none⟩) ∧ p6 = .pointer (some ⟨g6, 0, none⟩) ∧ Box wx g5 (cellsNd N[i]) 36 ∧ Box wx g6 (cellsNd N[j]) 36 ∧ Below W0.heap.size W0 wx)
  case first =>
    refine wp_region_RZ 16 (by kernel_rfl) (by kernel_rfl) ?_
    refine RZ.chunk (f := 4) [0, 1, 2, 3, 4, 5, 6, 7, 8, 9, 10, 11] (by kernel_rfl) ?_
    ((simp only [pickOps, List.filterMap, List.getElem?_toArray, List.getElem?_cons_zero, List.getElem?_cons_succ]); (repeat (go_big_quiet_step (fail))); refine wpQuiet_nil ?_)
    refine RZ.both 12 13 rfl rfl (by kernel_rfl) (by omega) (by omega) ?_ ?_
    · intro K hK
      go_wp2_with fail
      refine hK _ _ (bw_alloc (Below.refl _ _)) ?_
      clear hK
      refine RZ.single 13 rfl (by kernel_rfl) (by omega) ?_
      intro K hK
      go_wp2_with fail
      refine hK _ _ (bw_alloc (bw_alloc (Below.refl _ _))) ?_
      clear hK
      generalize hW : World.drew (World.alloc (World.alloc _ _) _) = W2
      have hb2 : Below W0.heap.size W0 W2 := by rw [← hW]; exact (by repeat (first | assumption | exact Below.refl _ _ | apply bw_alloc | apply bw_drew | apply bw_drewN | apply bw_later | apply bw_step))
      have b5 : Box W2 W0.heap.size [.int .i64 0, .int .i64 0, .int .i64 0] 36 := by rw [← hW]; exact (by repeat (first | (refine Box.at ?_; (simp; done)) | apply Box.drew | apply Box.alloc | assumption))
      have b6 : Box W2 (W0.heap.size + 1) [.int .i64 0, .int .i64 0, .int .i64 0] 36 := by rw [← hW]; exact (by repeat (first | (refine Box.at ?_; (simp; done)) | apply Box.drew | apply Box.alloc | assumption))
      clear hW
      have l5 := b5.lt
      have f5 := fun i => b5.free i
      have z0 := b5.cell 0 rfl
      have z1 := b5.cell 1 rfl
      have z2 := b5.cell 2 rfl
      obtain ⟨b5', hg5⟩ := b5.store3 (.int .i64 N[i].fn) (.int .i64 N[i].kind) (.int .i64 N[i].instr)
      have b6' := b6.grown hg5 (by simp)
      have hb3 := hb2.grown hg5 hb2.size (fun k hk => by injection hk with hk; omega)
      refine RZ.single 14 rfl (by kernel_rfl) (by omega) ?_
      intro K hK
      go_wp2_with fail
      refine hK _ _ (below_undrew hb3) ?_
      clear hK
      generalize World.setCell (World.setCell (World.setCell _ _ _) _ _) _ _ = W3 at *
      clear z0 z1 z2 f5
      have l6 := b6'.lt
      have f6 := fun i => b6'.free i
      have u0 := b6'.cell 0 rfl
      have u1 := b6'.cell 1 rfl
      have u2 := b6'.cell 2 rfl
      obtain ⟨b6'', hg6⟩ := b6'.store3 (.int .i64 N[j].fn) (.int .i64 N[j].kind) (.int .i64 N[j].instr)
      have b5'' := b5'.grown hg6 (by simp)
      have hb4 := hb3.grown hg6 hb3.size (fun k hk => by injection hk with hk; omega)
      refine RZ.single 15 rfl (by kernel_rfl) (by omega) ?_
      intro K hK
      go_wp2_with fail
      refine hK _ _ (below_undrew hb4) ?_
      clear hK
      (refine RZ.done (by kernel_rfl) (by kernel_rfl) ?_)
      go_wp2_with fail
      go_meet
      exact ⟨_, _, rfl, rfl, b5'', b6'', hb4⟩
    · intro K hK
      go_wp2_with fail
      refine hK _ _ (bw_alloc (Below.refl _ _)) ?_
      clear hK
      refine RZ.single 12 rfl (by kernel_rfl) (by omega) ?_
      intro K hK
      go_wp2_with fail
      refine hK _ _ (bw_alloc (bw_alloc (Below.refl _ _))) ?_
      clear hK
      generalize hW : World.drew (World.alloc (World.alloc _ _) _) = W2
      have hb2 : Below W0.heap.size W0 W2 := by rw [← hW]; exact (by repeat (first | assumption | exact Below.refl _ _ | apply bw_alloc | apply bw_drew | apply bw_drewN | apply bw_later | apply bw_step))
      have b5 : Box W2 (W0.heap.size + 1) [.int .i64 0, .int .i64 0, .int .i64 0] 36 := by rw [← hW]; exact (by repeat (first | (refine Box.at ?_; (simp; done)) | apply Box.drew | apply Box.alloc | assumption))
      have b6 : Box W2 W0.heap.size [.int .i64 0, .int .i64 0, .int .i64 0] 36 := by rw [← hW]; exact (by repeat (first | (refine Box.at ?_; (simp; done)) | apply Box.drew | apply Box.alloc | assumption))
      clear hW
      have l5 := b5.lt
      have f5 := fun i => b5.free i
      have z0 := b5.cell 0 rfl
      have z1 := b5.cell 1 rfl
      have z2 := b5.cell 2 rfl
      obtain ⟨b5', hg5⟩ := b5.store3 (.int .i64 N[i].fn) (.int .i64 N[i].kind) (.int .i64 N[i].instr)
      have b6' := b6.grown hg5 (by simp)
      have hb3 := hb2.grown hg5 hb2.size (fun k hk => by injection hk with hk; omega)
      refine RZ.single 14 rfl (by kernel_rfl) (by omega) ?_
      intro K hK
      go_wp2_with fail
      refine hK _ _ (below_undrew hb3) ?_
      clear hK
      generalize World.setCell (World.setCell (World.setCell _ _ _) _ _) _ _ = W3 at *
      clear z0 z1 z2 f5
      have l6 := b6'.lt
      have f6 := fun i => b6'.free i
      have u0 := b6'.cell 0 rfl
      have u1 := b6'.cell 1 rfl
      have u2 := b6'.cell 2 rfl
      obtain ⟨b6'', hg6⟩ := b6'.store3 (.int .i64 N[j].fn) (.int .i64 N[j].kind) (.int .i64 N[j].instr)
      have b5'' := b5'.grown hg6 (by simp)
      have hb4 := hb3.grown hg6 hb3.size (fun k hk => by injection hk with hk; omega)
      refine RZ.single 15 rfl (by kernel_rfl) (by omega) ?_
      intro K hK
      go_wp2_with fail
      refine hK _ _ (below_undrew hb4) ?_
      clear hK
      (refine RZ.done (by kernel_rfl) (by kernel_rfl) ?_)
      go_wp2_with fail
      go_meet
      exact ⟨_, _, rfl, rfl, b5'', b6'', hb4⟩
  case rest =>
    obtain ⟨g5, g6, rfl, rfl, b5, b6, hb1⟩ := hcut
    have bx1 := bx0.mono hb1
    have by1 := by0.mono hb1
    have hbW := below_step hb0 hb1
    have bl := bx1.lt
    have yl := by1.lt
    have l5 := b5.lt
    have l6 := b6.lt
    have z0 := bx1.cell 0 rfl
    have z1 := bx1.cell 1 rfl
    have z2 := bx1.cell 2 rfl
    have t0 := by1.cell 0 rfl
    have t1 := by1.cell 1 rfl
    have t2 := by1.cell 2 rfl
    have t3 := by1.cell 3 rfl
    have p0 := b5.cell 0 rfl
    have p1 := b5.cell 1 rfl
    have q0 := b6.cell 0 rfl
    have q1 := b6.cell 1 rfl
    have hsW := hs.mono hbW
    have hseW := hse.mono hbW
    clear x0 y0 y1 d0 d1 d2 e0 e1 e2' e2 hb hb' hbl hyl hs hse bx0 by0 hb0 hb1
    generalize N[i].fn = fi at *
    generalize N[i].kind = ki at *
    generalize N[j].fn = fj at *
    generalize N[j].kind = kj at *
    rcases HC.out with h | h | h | ⟨n1, n5, n2, k, hk, h⟩
    · subst h
      go_wp2
      all_goals (go_ret; exact ⟨⟨_, rfl⟩, (by repeat (first | assumption | exact Below.refl _ _ | apply bw_alloc | apply bw_drew | apply bw_drewN | apply bw_later | apply bw_step))⟩)
    · subst h
      go_wp2
      all_goals (go_ret; exact ⟨⟨_, rfl⟩, (by repeat (first | assumption | exact Below.refl _ _ | apply bw_alloc | apply bw_drew | apply bw_drewN | apply bw_later | apply bw_step))⟩)
    · subst h
      go_wp2
      all_goals (go_ret; exact ⟨⟨_, rfl⟩, (by repeat (first | assumption | exact Below.refl _ _ | apply bw_alloc | apply bw_drew | apply bw_drewN | apply bw_later | apply bw_step))⟩)
    · subst h
      obtain ⟨b2, o2, e2, hb2, r0, r1, r2⟩ := hsW.nd_at hk
      obtain ⟨rfl, rfl⟩ : b = b2 ∧ o = o2 := by simpa using e2
      clear e2
      go_wp2_with fail
      all_goals (first | (go_ret; exact ⟨⟨_, rfl⟩, (by repeat (first | assumption | exact Below.refl _ _ | apply bw_alloc | apply bw_drew | apply bw_drewN | apply bw_later | apply bw_step))⟩) | (refine (calls_any _ A1 c0 c1 N E m _ _ _ hl hle (hsW.mono (by repeat (first | assumption | exact Below.refl _ _ | apply bw_alloc | apply bw_drew | apply bw_drewN | apply bw_later | apply bw_step))) (hseW.mono (by repeat (first | assumption | exact Below.refl _ _ | apply bw_alloc | apply bw_drew | apply bw_drewN | apply bw_later | apply bw_step)))).mono ?_; rintro e w3 ⟨⟨v3, rfl⟩, hb3⟩; have hb3' : Below wc.heap.size wc w3 := below_step (bw_alloc (Below.refl _ _)) hb3; have q0' := keptC q0 l6 hb3'; have q1' := keptC q1 l6 hb3'; have b7 := (Box.new wc [.int .i64 N[k].fn, .int .i64 2, .int .i64 N[k].instr] 36).mono hb3; have l7 := b7.lt; have r0' := b7.cell 0 rfl; cases v3 <;> (go_wp2_with fail; all_goals (go_ret; exact ⟨⟨_, rfl⟩, below_step hbW hb3'⟩))))
end Go.Proofs.Ytikjafgemaahlaa
