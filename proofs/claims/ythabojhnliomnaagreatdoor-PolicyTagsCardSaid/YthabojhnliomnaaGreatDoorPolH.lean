/-
  Chapter 42: the walk of the law PolicyTags.
-/
import Derived.Test.YthabojhnliomnaaGreatDoorPolG
namespace Go.Proofs.YthabojhnliomnaaGreatDoor
open Go.RowKit
set_option linter.unusedVariables false

set_option maxRecDepth 100000 in
set_option maxHeartbeats 2000000 in
theorem walk_PolicyTags (A A2 : Option Addr) (c n2 c2 : Nat) (l : List Rul) (w : World) (hg : Glob w) (hl : l.length ≤ 1400000000000) (hs : Sl Lay.rul w A l) :
    Calls Tryz.prog 7 #[.agg #[.slice A l.length c, .slice A2 n2 c2]] w fun e w' => e = .returned (.bool true) ∧ Below w.heap.size w w' := by
  have bx0 := Box.new w [.slice A l.length c, .slice A2 n2 c2] 25
  have hb0 : Below w.heap.size w (w.alloc (.cells #[.slice A l.length c, .slice A2 n2 c2] 25)) := (by repeat (first | assumption | exact Below.refl _ _ | apply bw_alloc | apply bw_drew | apply bw_drewN | apply bw_later | apply bw_step))
  have hR := (ascS_spec (srcT l)).1
  have hRl := Nat.le_trans (ascS_len (srcT l)) (show (srcT l).length ≤ l.length by have := srcT_len l l.length; rwa [List.take_length] at this)
  have HA := fun W h => tags_any A A2 c n2 c2 l W hl (hs.mono h)
  have HB := fun W h => refTags_any A A2 c n2 c2 l W hl (hs.mono h)
  obtain ⟨R, HR⟩ : ∃ R, Hid (R = ascS (srcT l)) := ⟨_, Lib.hid rfl⟩
  rw [← HR.out] at hR hRl HA HB
  replace hR := Lib.hid hR
  replace HA := Lib.hid HA
  replace HB := Lib.hid HB
  go_enter Tryz.func7, Tryz.ntmps7
  go_upto_region 1 with fail
  generalize hW : World.alloc _ _ = W1 at *
  clear hW
  have y0 := bx0.cell 0 rfl
  have y1 := bx0.cell 1 rfl
  have yl := bx0.lt
  go_cut [3, 4] (fun v3 v4 wx => ∃ A3 c3 A4 c4, v3 = .slice A3 R.length c3 ∧ v4 = .slice A4 R.length c4 ∧ Sl Lay.str wx A3 R ∧ Sl Lay.str wx A4 R ∧ Below w.heap.size w wx)
  case first =>
    refine wp_region_RW 6 (by kernel_rfl) (by kernel_rfl) ?_
    refine RW.chunk (f := 4) [0, 2] (by kernel_rfl) ?_
    ((simp only [pickOps, List.filterMap, List.getElem?_toArray, List.getElem?_cons_zero, List.getElem?_cons_succ]); (repeat (go_big_quiet_step (fail))); refine wpQuiet_nil ?_)
    refine RW.single 1 rfl (by kernel_rfl) (by omega) ?_
    intro K hK
    go_wp2_with fail
    refine (HA.out _ (bw_drew hb0)).mono ?_
    rintro e w2 ⟨⟨v2, rfl, ho2⟩, hb2⟩
    obtain ⟨A3, c3, rfl, hc3, hs3⟩ := ho2.sl (L := Lay.str) rfl (fun x => rfl)
    have hbw2 := below_step (bw_drew hb0) hb2
    go_wp2_with fail
    refine hK _ _ hb2 ?_
    clear hK
    refine RW.single 3 rfl (by kernel_rfl) (by omega) ?_
    intro K hK
    go_wp2_with fail
    refine (HB.out _ hbw2).mono ?_
    rintro e w3 ⟨⟨v3, rfl, ho3⟩, hb3⟩
    obtain ⟨A4, c4, rfl, hc4, hs4⟩ := ho3.sl (L := Lay.str) rfl (fun x => rfl)
    go_wp2_with fail
    refine hK _ _ hb3 ?_
    clear hK
    refine RW.chunk (f := 0) [4, 5] (by kernel_rfl) ?_
    ((simp only [pickOps, List.filterMap, List.getElem?_toArray, List.getElem?_cons_zero, List.getElem?_cons_succ]); (repeat (go_big_quiet_step (fail))); refine wpQuiet_nil ?_)
    (refine RW.done (by kernel_rfl) (by kernel_rfl) ?_)
    go_wp2_with fail
    go_meet
    exact ⟨A3, c3, A4, c4, rfl, rfl, hs3.mono hb3, hs4, below_step hbw2 hb3⟩
  case rest =>
    obtain ⟨A3, c3, A4, c4, rfl, rfl, hs3, hs4, hbw⟩ := hcut
    clear y0 y1 yl bx0 hb0 HA HB
    go_wp2_with fail
    rename_i wx _
    go_loopw [5] (fun i wr => ∃ k : Nat, k ≤ R.length ∧ i = .int .i64 k ∧ Sl Lay.str wr A3 R ∧ Sl Lay.str wr A4 R ∧ Below w.heap.size w wr) (fun i _ => R.length - (intOf i).toNat)
    case atStart => exact ⟨0, Nat.zero_le _, rfl, hs3, hs4, hbw⟩
    case round =>
      clear hs3 hs4 hbw
      obtain ⟨k, hk, rfl, hs3, hs4, hbw⟩ := hrel
      by_cases hlt : k < R.length
      · obtain ⟨b, o, rfl, hb, d0⟩ := hs3.str_at hlt
        obtain ⟨b', o', rfl, hb', e0⟩ := hs4.str_at hlt
        have t1 : (R[k].toList == R[k].toList) = true := by simp
        by_cases hk0 : k = 0
        · subst hk0
          have d0' : wr.cell? ⟨b, o, none⟩ = some (.string R[0]) := d0
          have e0' : wr.cell? ⟨b', o', none⟩ = some (.string R[0]) := e0
          have z1 : (0 : Int) < (R.length : Int) := by omega
          go_wp2_with fail
          refine wp_region_later (by kernel_rfl) (by kernel_rfl) ?_
          repeat (go_big_quiet_step (fail))
          refine wpQuiet_nil ?_
          rintro _ ⟨x, rfl⟩
          go_wp2_with fail
          go_roundw
          case rel => exact ⟨1, by omega, by go_num, hs3.later x, hs4.later x, below_step hbw x.h⟩
          case measure => simp [intOf]; omega
        · obtain ⟨m, rfl⟩ : ∃ m, k = m + 1 := ⟨k - 1, by omega⟩
          obtain ⟨b2, o2, eA, hb2, d1⟩ := hs3.str_at (i := m) (by omega)
          injection eA with eA
          injection eA with e1 e2
          subst e1 e2
          have hlt2 : toL R[m] < toL R[m + 1] := List.pairwise_iff_getElem.1 hR.out m (m + 1) (by omega) hlt (by omega)
          have t2 : Op.bytesLess R[m].toList R[m + 1].toList = true := by rw [bytesLess_eq]; exact decide_eq_true (ltS_lt.1 hlt2)
          clear hlt2 hk0
          have t3 : (((m + 1 : Nat) : Int) - 1) = (m : Int) := by omega
          go_wp2_with fail
          refine wp_region_later (by kernel_rfl) (by kernel_rfl) ?_
          repeat (go_big_quiet_step (fail))
          refine wpQuiet_nil ?_
          rintro _ ⟨x, rfl⟩
          go_wp2_with fail
          go_roundw
          case rel => exact ⟨m + 1 + 1, by omega, by go_num, hs3.later x, hs4.later x, below_step hbw x.h⟩
          case measure => simp [intOf]; omega
      · go_wp2_with fail
        refine (awake_any _ (hg.mono hbw)).mono ?_
        rintro e w4 ⟨rfl, hb4⟩
        go_wp2_with fail
        go_ret
        exact ⟨rfl, below_step hbw hb4⟩
end Go.Proofs.YthabojhnliomnaaGreatDoor
