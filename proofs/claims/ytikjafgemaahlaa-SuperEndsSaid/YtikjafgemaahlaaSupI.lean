/-
  Chapter 27: the program's Check of a good graph whose edges all stay within functions.
-/
import Derived.Test.YtikjafgemaahlaaSupH
namespace Go.Proofs.Ytikjafgemaahlaa
open Go.RowKit
set_option linter.unusedVariables false

set_option maxRecDepth 100000 in
set_option maxHeartbeats 4000000 in
theorem supCheck_any (A0 A1 : Option Addr) (c0 c1 : Nat) (N : List Nd) (E : List Sed) (m : Int) (mi : Nat) (w : World) (hG : Hid (Good N E)) (hs : Sl Lay.nd w A0 N) (hse : Sl Lay.sed w A1 E) (hm : m = (mi : Int)) (hmi : mi < N.length) :
    Calls Try.prog 16 #[.agg #[.slice A0 N.length c0, .slice A1 E.length c1, .int .i64 m]] w fun e w' => e = .returned (.int .i64 (if N[mi].kind = 1 then 0 else 14)) ∧ Below w.heap.size w w' := by
  subst hm
  have hl := hG.out.len
  have hle := hG.out.lenE
  have n1 : ¬ (8192 : Int) < (N.length : Int) := by omega
  have n2 : ¬ (32768 : Int) < (E.length : Int) := by omega
  have hmk := run_makeMap_none (P := Try.prog) 52 54 4 Try.underlying52
  have hb0 : Below w.heap.size w (w.alloc (.cells #[.slice A0 N.length c0, .slice A1 E.length c1, .int .i64 (mi : Int)] 25)) := (by repeat (first | assumption | exact Below.refl _ _ | apply bw_alloc | apply bw_drew | apply bw_drewN | apply bw_later | apply bw_step))
  have bx0 := Box.new w [.slice A0 N.length c0, .slice A1 E.length c1, .int .i64 (mi : Int)] 25
  go_enter Try.func16, Try.ntmps16
  go_wp2_with fail
  go_loopw [3, 4, 26] (fun _ _ i wr => ∃ k : Nat, k ≤ N.length ∧ i = .int .i64 k ∧ Box wr w.heap.size [.slice A0 N.length c0, .slice A1 E.length c1, .int .i64 (mi : Int)] 25 ∧ Below w.heap.size w wr) (fun _ _ i _ => N.length - (intOf i).toNat)
  case atStart => exact ⟨0, Nat.zero_le _, rfl, bx0, hb0⟩
  case round =>
    obtain ⟨k, hk, rfl, bx, hbw⟩ := hrel
    have hbl := bx.lt
    have x0 := bx.cell 0 rfl
    have x1 := bx.cell 1 rfl
    have x2 := bx.cell 2 rfl
    by_cases hlt : k < N.length
    · obtain ⟨b, o, eA, hb, d0, d1, d2⟩ := (hs.mono hbw).nd_at hlt
      subst eA
      obtain ⟨g1, g2, g3, g4, g5, g6⟩ := hG.out.node k hlt
      have G6 := Lib.hid g6
      go_upto_region 6 with fail
      generalize hW : World.alloc _ _ = W1
      have hb1 : Below wr.heap.size wr W1 := by rw [← hW]; exact (by repeat (first | assumption | exact Below.refl _ _ | apply bw_alloc | apply bw_drew | apply bw_drewN | apply bw_later | apply bw_step))
      have by1 : Box W1 wr.heap.size (cellsNd N[k]) 36 := by rw [← hW]; exact Box.new _ _ _
      clear hW g6
      have bx1 := bx.mono hb1
      have hbw1 := below_step hbw hb1
      have hs1 := hs.mono hbw1
      have l1 := bx1.lt
      have l2 := by1.lt
      have y0 := by1.cell 0 rfl
      have y1 := by1.cell 1 rfl
      have y2 := by1.cell 2 rfl
      have z0 := bx1.cell 0 rfl
      clear d0 d1 d2 x0 x1 x2 hb hbl
      have e1 : ¬ N[k].kind < 1 := by omega
      have e2 : ¬ 4 < N[k].kind := by omega
      have e3 : ¬ N[k].fn < 0 := by omega
      go_upto_region 8 with fail
      go_cut [61] (fun v wx => v = .bool false ∧ W1 = wx)
      case first =>
        by_cases q4 : N[k].kind = 2
        · have q5 : ¬ N[k].instr < 0 := by have := g4 q4; omega
          clear g4 g5
          go_wp2_with fail
          go_meet
          exact ⟨rfl, rfl⟩
        · have q5 : N[k].instr = -1 := g5 q4
          clear g4 g5
          go_wp2_with fail
          go_meet
          exact ⟨rfl, rfl⟩
      case rest =>
      obtain ⟨rfl, rfl⟩ := hcut
      clear g4 g5
      by_cases ht0 : (0 : Int) < (k : Int)
      · obtain ⟨k', hti, htl, hke⟩ : ∃ k' : Nat, (k : Int) - 1 = (k' : Int) ∧ ∃ htl : k' < N.length, k = k' + 1 := ⟨k - 1, by omega, by omega, by omega⟩
        have ht1 : 0 < k := by omega
        have ht2 : decide (0 < k) = true := decide_eq_true ht1
        have ht3 : decide ((0 : Int) < (k : Int)) = true := decide_eq_true ht0
        obtain ⟨b', o', e2', hb', f0, f1, f2⟩ := hs1.nd_at htl
        injection e2' with e2'
        injection e2' with e3' e4'
        subst e3' e4'
        have htI : (k' : Int) < (N.length : Int) := by omega
        have HQ2 := orderNode_any N[k'] N[k]
        have hneg : cmpN N[k'] N[k] < 0 := cmpN_neg (by have := G6.out ht1; simp only [hke, Nat.add_sub_cancel] at this; subst hke; exact this)
        generalize cmpN N[k'] N[k] = r at HQ2 hneg
        have hge : ¬ 0 ≤ r := by omega
        clear hke
        go_wp2_with fail
        refine wp_region_later (by kernel_rfl) (by kernel_rfl) ?_
        repeat (go_big_quiet_step ((go_at_call 23; exact Calls.later (HQ2 _))))
        refine wpQuiet_nil ?_
        rintro _ ⟨x, rfl⟩
        go_wp2_with fail
        go_roundw
        case rel => exact ⟨k + 1, by omega, by go_num, bx1.mono x.h, (by repeat (first | assumption | exact Below.refl _ _ | apply bw_alloc | apply bw_drew | apply bw_drewN | apply bw_later | apply bw_step))⟩
        case measure => simp [intOf]; omega
      · have ht1 : ¬ 0 < k := by omega
        have ht2 : decide (0 < k) = false := decide_eq_false ht1
        have ht3 : decide ((0 : Int) < (k : Int)) = false := decide_eq_false ht0
        go_wp2_with fail
        refine wp_region_later (by kernel_rfl) (by kernel_rfl) ?_
        repeat (go_big_quiet_step (fail))
        refine wpQuiet_nil ?_
        rintro _ ⟨x, rfl⟩
        go_wp2_with fail
        go_roundw
        case rel => exact ⟨k + 1, by omega, by go_num, bx1.mono x.h, (by repeat (first | assumption | exact Below.refl _ _ | apply bw_alloc | apply bw_drew | apply bw_drewN | apply bw_later | apply bw_step))⟩
        case measure => simp [intOf]; omega
    · clear bx0 hb0
      go_wp2_with fail
      refine (starts_any A0 A1 c0 c1 N E mi _ hG (hs.mono hbw)).mono ?_
      rintro e w1 ⟨⟨uS, rfl⟩, hb1⟩
      have bx1 := bx.mono hb1
      have hbw1 := below_step hbw hb1
      have l1 := bx1.lt
      have z0 := bx1.cell 0 rfl
      have z1 := bx1.cell 1 rfl
      have z2 := bx1.cell 2 rfl
      clear x0 x1 x2 hbl
      obtain ⟨b, o, eA, hb, d0, d1, d2⟩ := (hs.mono hbw1).nd_at hmi
      subst eA
      have hmI : (mi : Int) < (N.length : Int) := by omega
      have hmJ : ¬ N.length ≤ mi := by omega
      have hmK : decide (N.length ≤ mi) = false := decide_eq_false hmJ
      by_cases q : N[mi].kind = 1
      case neg =>
        have HQ : Hid ((if N[mi].kind = 1 then (0 : Int) else 14) = 14) := if_neg q
        have q' : (N[mi].kind != 1) = true := by simpa using q
        go_wp2_with fail
        go_ret
        exact ⟨rfl, hbw1⟩
      have HQ : Hid ((if N[mi].kind = 1 then (0 : Int) else 14) = 0) := if_pos q
      go_upto_region 19 with fail
      generalize hW : World.alloc _ _ = W2
      have hb2 : Below w.heap.size w W2 := by rw [← hW]; exact (by repeat (first | assumption | exact Below.refl _ _ | apply bw_alloc | apply bw_drew | apply bw_drewN | apply bw_later | apply bw_step))
      have bx2 : Box W2 w.heap.size [.slice (some ⟨b, o, none⟩) N.length c0, .slice A1 E.length c1, .int .i64 (mi : Int)] 25 := by rw [← hW]; exact bx1.alloc _
      clear hW hmk
      clear z0 z1 z2 d0 d1 d2 hb l1 bx1 hbw1 bx hbw hb1
      have l2 := bx2.lt
      have z1 := bx2.cell 1 rfl
      have hkind : Hid (∀ k (hk : k < E.length), E[k].kind = 1) := fun k hk => by
        obtain ⟨i, j, hi, hj, e, _⟩ := hG.out.edge k hk
        rw [e]
      go_wp2_with fail
      go_loopw [9, 108] (fun _ i wr => ∃ k : Nat, k ≤ E.length ∧ i = .int .i64 k ∧ Box wr w.heap.size [.slice (some ⟨b, o, none⟩) N.length c0, .slice A1 E.length c1, .int .i64 (mi : Int)] 25 ∧ Below w.heap.size w wr) (fun _ i _ => E.length - (intOf i).toNat)
      case atStart => exact ⟨0, Nat.zero_le _, rfl, bx2, hb2⟩
      case round =>
        obtain ⟨k2, hk2, rfl, bx, hbw⟩ := hrel
        by_cases hlt2 : k2 < E.length
        · obtain ⟨b1, o1, eA, hb1, d0, d1, d2, d3⟩ := (hse.mono hbw).sed_at hlt2
          subst eA
          rw [hkind.out k2 hlt2] at d2
          go_wp2_with fail
          go_roundw
          case rel => exact ⟨k2 + 1, by omega, by go_num, bx.alloc _, bw_alloc hbw⟩
          case measure => simp [intOf]; omega
        · clear bx2 hb2 l2 z1
          have l2 := bx.lt
          have z1 := bx.cell 1 rfl
          go_wp2_with fail
          obtain ⟨wo, rfl⟩ : ∃ wo : World, wo = wr := ⟨_, rfl⟩
          go_loopw [10, 11, 12, 125] (fun _ _ _ i wr => ∃ k : Nat, k ≤ E.length ∧ i = .int .i64 k ∧ Box wr w.heap.size [.slice (some ⟨b, o, none⟩) N.length c0, .slice A1 E.length c1, .int .i64 (mi : Int)] 25 ∧ Below w.heap.size w wr) (fun _ _ _ i _ => E.length - (intOf i).toNat)
          case atStart => exact ⟨0, Nat.zero_le _, rfl, bx, hbw⟩
          case round =>
            clear z1 l2 bx hbw
            obtain ⟨k, hk, rfl, bx, hbw⟩ := hrel
            have l2 := bx.lt
            have z0 := bx.cell 0 rfl
            have z1 := bx.cell 1 rfl
            have z2 := bx.cell 2 rfl
            by_cases hlt : k < E.length
            case neg =>
              go_wp2_with fail
              go_ret
              exact ⟨rfl, hbw⟩
            obtain ⟨b1, o1, eA, hb1, d0, d1, d2, d3⟩ := (hse.mono hbw).sed_at hlt
            subst eA
            obtain ⟨i, j, hi, hj, he, hf, hki, hkj⟩ := hG.out.edge k hlt
            have HF := Lib.hid hf
            have HKI := Lib.hid hki
            have HKJ := Lib.hid hkj
            have HO := Lib.hid (hG.out.order k hlt)
            clear hf hki hkj
            have v0 : E[k].src = (i : Int) := by rw [he]
            have v1 : E[k].dst = (j : Int) := by rw [he]
            have v2 : E[k].kind = 1 := by rw [he]
            have v3 : E[k].call = -1 := by rw [he]
            rw [v0] at d0
            rw [v1] at d1
            rw [v2] at d2
            rw [v3] at d3
            have HQ3 : ∀ k' (h : k' < E.length) (w : World), Calls Try.prog 26 #[.agg #[.int .i64 E[k'].src, .int .i64 E[k'].dst, .int .i64 E[k'].kind, .int .i64 E[k'].call], .agg #[.int .i64 i, .int .i64 j, .int .i64 1, .int .i64 (-1)]] w fun e w' => e = .returned (.int .i64 (cmpE E[k'] E[k])) ∧ Below w.heap.size w w' := fun k' h w => by
              have := orderEdge_any E[k'] E[k] w
              rw [v0, v1, v2, v3] at this
              exact this
            clear v0 v1 v2 v3 he
            go_wp2_with fail
            generalize hW : World.alloc _ _ = W3
            have hb3 : Below wr.heap.size wr W3 := by rw [← hW]; exact (by repeat (first | assumption | exact Below.refl _ _ | apply bw_alloc | apply bw_drew | apply bw_drewN | apply bw_later | apply bw_step))
            have by3 : Box W3 wr.heap.size [.int .i64 i, .int .i64 j, .int .i64 1, .int .i64 (-1)] 33 := by rw [← hW]; exact Box.new _ _ _
            clear hW
            have bx3 := bx.mono hb3
            have hbw3 := below_step hbw hb3
            refine (supcheck_any _ _ c0 c1 N E mi i j _ hi hj (by omega)).mono ?_
            rintro e w4 ⟨rfl, hb4⟩
            have bx4 := bx3.mono hb4
            have by4 := by3.mono hb4
            have hbw4 := below_step hbw3 hb4
            clear d0 d1 d2 d3 z0 z1 z2 hb1
            have l4 := bx4.lt
            have l5 := by4.lt
            have y0 := by4.cell 0 rfl
            have y1 := by4.cell 1 rfl
            have y2 := by4.cell 2 rfl
            have y3 := by4.cell 3 rfl
            have z0 := bx4.cell 0 rfl
            have z1 := bx4.cell 1 rfl
            have z2 := bx4.cell 2 rfl
            by_cases ht0 : (0 : Int) < (k : Int)
            · obtain ⟨k', hti, htl, hke⟩ : ∃ k' : Nat, (k : Int) - 1 = (k' : Int) ∧ ∃ htl : k' < E.length, k = k' + 1 := ⟨k - 1, by omega, by omega, by omega⟩
              have ht1 : 0 < k := by omega
              have ht2 : decide (0 < k) = true := decide_eq_true ht1
              have ht3 : decide ((0 : Int) < (k : Int)) = true := decide_eq_true ht0
              obtain ⟨b', o', e2', hb', f0, f1, f2, f3⟩ := (hse.mono hbw4).sed_at htl
              injection e2' with e2'
              injection e2' with e3' e4'
              subst e3' e4'
              have htI : (k' : Int) < (E.length : Int) := by omega
              have HQ2 := HQ3 k' htl
              have hneg : cmpE E[k'] E[k] < 0 := cmpE_neg (by have := HO.out ht1; simp only [hke, Nat.add_sub_cancel] at this; subst hke; exact this)
              clear HQ3
              generalize cmpE E[k'] E[k] = r at HQ2 hneg
              have hge : ¬ 0 ≤ r := by omega
              clear hke
              go_wp2_with fail
              refine wp_region_later (by kernel_rfl) (by kernel_rfl) ?_
              repeat (go_big_quiet_step ((go_at_call 26; exact Calls.later (HQ2 _))))
              refine wpQuiet_nil ?_
              rintro _ ⟨x, rfl⟩
              go_wp2_with fail
              refine (matches_any _ _ c0 c1 N E mi i j _ _ _ ((hs.mono hbw4).mono x.h) hi hj (by omega) HF.out HKI.out HKJ.out).mono ?_
              rintro e w5 ⟨rfl, hb5⟩
              go_wp2_with fail
              go_roundw
              case rel => exact ⟨k + 1, by omega, by go_num, (bx4.mono x.h).mono hb5, (by repeat (first | assumption | exact Below.refl _ _ | apply bw_alloc | apply bw_drew | apply bw_drewN | apply bw_later | apply bw_step))⟩
              case measure => simp [intOf]; omega
            · have ht1 : ¬ 0 < k := by omega
              have ht2 : decide (0 < k) = false := decide_eq_false ht1
              have ht3 : decide ((0 : Int) < (k : Int)) = false := decide_eq_false ht0
              go_wp2_with fail
              refine wp_region_later (by kernel_rfl) (by kernel_rfl) ?_
              repeat (go_big_quiet_step (fail))
              refine wpQuiet_nil ?_
              rintro _ ⟨x, rfl⟩
              go_wp2_with fail
              refine (matches_any _ _ c0 c1 N E mi i j _ _ _ ((hs.mono hbw4).mono x.h) hi hj (by omega) HF.out HKI.out HKJ.out).mono ?_
              rintro e w5 ⟨rfl, hb5⟩
              go_wp2_with fail
              go_roundw
              case rel => exact ⟨k + 1, by omega, by go_num, (bx4.mono x.h).mono hb5, (by repeat (first | assumption | exact Below.refl _ _ | apply bw_alloc | apply bw_drew | apply bw_drewN | apply bw_later | apply bw_step))⟩
              case measure => simp [intOf]; omega
end Go.Proofs.Ytikjafgemaahlaa
