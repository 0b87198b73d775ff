/-
  Chapter 27: the reference's Check, one way.
-/
import Derived.Test.YtikjafgemaahlaaSupC
namespace Go.Proofs.Ytikjafgemaahlaa
open Go.RowKit
set_option linter.unusedVariables false

/-- What SuperEnds needs of the nodes. -/
def NodesTo (N : List Nd) (k : Nat) : Prop := ∀ i (hi : i < N.length), i < k → (N[i].kind ≠ 2 → N[i].instr = -1) ∧ ∀ h : 0 < i, ltN (N[i - 1]'(by omega)) N[i] = true
def RetN (N : List Nd) (e : Ending) : Prop := ∃ n : Int, e = .returned (.int .i64 n) ∧ (n = 0 → NodesTo N N.length)
theorem RetN.no {N : List Nd} {n : Int} (h : n ≠ 0) : RetN N (.returned (.int .i64 n)) := ⟨n, rfl, fun e => absurd e h⟩

theorem NodesTo.step {N : List Nd} {k : Nat} (h : NodesTo N k) (hk : k < N.length) (h1 : N[k].kind ≠ 2 → N[k].instr = -1) (h2 : ∀ h : 0 < k, ltN (N[k - 1]'(by omega)) N[k] = true) : NodesTo N (k + 1) := fun i hi hik => by
  by_cases e : i = k
  · subst e; exact ⟨h1, h2⟩
  · exact h i hi (by omega)

set_option maxRecDepth 100000 in
set_option maxHeartbeats 2000000 in
theorem nodes_any (A0 A1 : Option Addr) (c0 c1 : Nat) (N : List Nd) (E : List Sed) (m : Int) (w : World) (hl : N.length ≤ 1000000) (hs : Sl Lay.nd w A0 N) :
    Calls Try.prog 11 #[.agg #[.slice A0 N.length c0, .slice A1 E.length c1, .int .i64 m]] w fun e w' => RetN N e ∧ Below w.heap.size w w' := by
  have hb0 : Below w.heap.size w (w.alloc (.cells #[.slice A0 N.length c0, .slice A1 E.length c1, .int .i64 m] 25)) := (by repeat (first | assumption | exact Below.refl _ _ | apply bw_alloc | apply bw_drew | apply bw_drewN | apply bw_later | apply bw_step))
  have bx0 := Box.new w [.slice A0 N.length c0, .slice A1 E.length c1, .int .i64 m] 25
  go_enter Try.func11, Try.ntmps11
  go_wp2_with fail
  go_loopw [3, 4] (fun i i4 wr => ∃ k : Nat, k ≤ N.length ∧ i = .int .i64 k ∧ Hid (NodesTo N k) ∧ Box wr w.heap.size [.slice A0 N.length c0, .slice A1 E.length c1, .int .i64 m] 25 ∧ Below w.heap.size w wr) (fun i _ _ => N.length - (intOf i).toNat)
  case atStart => exact ⟨0, Nat.zero_le _, rfl, fun i hi hik => by omega, bx0, hb0⟩
  case round =>
    obtain ⟨k, hk, rfl, HN, bx, hbw⟩ := hrel
    have hbl := bx.lt
    have x0 := bx.cell 0 rfl
    have x1 := bx.cell 1 rfl
    have x2 := bx.cell 2 rfl
    by_cases hlt : k < N.length
    · obtain ⟨b, o, eA, hb, d0, d1, d2⟩ := (hs.mono hbw).nd_at hlt
      subst eA
      go_upto_region 5 with fail
      generalize hW : World.alloc _ _ = W1
      have hb1 : Below wr.heap.size wr W1 := by rw [← hW]; exact (by repeat (first | assumption | exact Below.refl _ _ | apply bw_alloc | apply bw_drew | apply bw_drewN | apply bw_later | apply bw_step))
      have by1 : Box W1 wr.heap.size (cellsNd N[k]) 36 := by rw [← hW]; exact Box.new _ _ _
      clear hW
      have bx1 := bx.mono hb1
      have hbw1 := below_step hbw hb1
      have hs1 := hs.mono hbw1
      have l1 := bx1.lt
      have l2 := by1.lt
      have y0 := by1.cell 0 rfl
      have y1 := by1.cell 1 rfl
      have y2 := by1.cell 2 rfl
      have z0 := bx1.cell 0 rfl
      clear d0 d1 d2 x0 x1 x2 hb hbl
      by_cases q1 : N[k].kind < 1
      · go_wp2_with fail
        go_ret
        exact ⟨RetN.no (by decide), (by repeat (first | assumption | exact Below.refl _ _ | apply bw_alloc | apply bw_drew | apply bw_drewN | apply bw_later | apply bw_step))⟩
      by_cases q2 : 4 < N[k].kind
      · go_wp2_with fail
        go_ret
        exact ⟨RetN.no (by decide), (by repeat (first | assumption | exact Below.refl _ _ | apply bw_alloc | apply bw_drew | apply bw_drewN | apply bw_later | apply bw_step))⟩
      go_upto_region 7 with fail
      go_cut [30] (fun v wx => ∃ q : Bool, v = .bool q ∧ Hid (q = false → N[k].kind ≠ 2 → N[k].instr = -1) ∧ wx = W1)
      case first =>
        by_cases q3 : N[k].fn < 0
        · go_wp2_with fail
          go_meet
          exact ⟨_, rfl, (fun h => by cases h), rfl⟩
        by_cases q4 : N[k].kind = 2
        · by_cases q5 : N[k].instr < 0
          · go_wp2_with fail
            go_meet
            exact ⟨_, rfl, (fun h => by cases h), rfl⟩
          · have HQ : Hid (N[k].kind ≠ 2 → N[k].instr = -1) := fun h => absurd q4 h
            go_wp2_with fail
            go_meet
            exact ⟨_, rfl, (fun _ => HQ.out), rfl⟩
        · by_cases q5 : N[k].instr = -1
          · have HQ : Hid (N[k].kind ≠ 2 → N[k].instr = -1) := fun _ => q5
            go_wp2_with fail
            go_meet
            exact ⟨_, rfl, (fun _ => HQ.out), rfl⟩
          · have n4 : (N[k].kind != 2) = true := by simpa using q4
            have n5 : (N[k].instr != -1) = true := by simpa using q5
            go_wp2_with fail
            go_meet
            exact ⟨_, rfl, (fun h => by cases h), rfl⟩
      case rest =>
        obtain ⟨q, rfl, HQ, rfl⟩ := hcut
        cases q with
        | true =>
          go_wp2_with fail
          go_ret
          exact ⟨RetN.no (by decide), (by repeat (first | assumption | exact Below.refl _ _ | apply bw_alloc | apply bw_drew | apply bw_drewN | apply bw_later | apply bw_step))⟩
        | false =>
          by_cases ht0 : (0 : Int) < (k : Int)
          · obtain ⟨k', hti, htl, hke⟩ : ∃ k' : Nat, (k : Int) - 1 = (k' : Int) ∧ ∃ htl : k' < N.length, k = k' + 1 := ⟨k - 1, by omega, by omega, by omega⟩
            have ht1 : 0 < k := by omega
            have ht2 : decide (0 < k) = true := decide_eq_true ht1
            have ht3 : decide ((0 : Int) < (k : Int)) = true := decide_eq_true ht0
            obtain ⟨b', o', e2, hb', f0, f1, f2⟩ := hs1.nd_at htl
            injection e2 with e2
            injection e2 with e3 e4
            subst e3 e4
            have htI : (k' : Int) < (N.length : Int) := by omega
            have HQ2 := less_any N[k'] N[k]
            cases hq : ltN N[k'] N[k] with
            | true =>
              have HE : Hid (NodesTo N (k + 1)) := HN.out.step hlt (HQ.out rfl) (fun h => by simp only [hke, Nat.add_sub_cancel]; subst hke; exact hq)
              rw [hq] at HQ2
              clear hq hke
              go_wp2_with fail
              refine wp_region_later (by kernel_rfl) (by kernel_rfl) ?_
              repeat (go_big_quiet_step ((go_at_call 19; exact Calls.later (HQ2 _))))
              refine wpQuiet_nil ?_
              rintro _ ⟨x, rfl⟩
              go_wp2_with fail
              go_roundw
              case rel => exact ⟨k + 1, by omega, by go_num, HE, bx1.mono x.h, (by repeat (first | assumption | exact Below.refl _ _ | apply bw_alloc | apply bw_drew | apply bw_drewN | apply bw_later | apply bw_step))⟩
              case measure => simp [intOf]; omega
            | false =>
              rw [hq] at HQ2
              clear hq hke
              go_wp2_with fail
              refine wp_region_later (by kernel_rfl) (by kernel_rfl) ?_
              repeat (go_big_quiet_step ((go_at_call 19; exact Calls.later (HQ2 _))))
              refine wpQuiet_nil ?_
              rintro _ ⟨x, rfl⟩
              go_wp2_with fail
              go_ret
              exact ⟨RetN.no (by decide), (by repeat (first | assumption | exact Below.refl _ _ | apply bw_alloc | apply bw_drew | apply bw_drewN | apply bw_later | apply bw_step))⟩
          · have ht1 : ¬ 0 < k := by omega
            have ht2 : decide (0 < k) = false := decide_eq_false ht1
            have ht3 : decide ((0 : Int) < (k : Int)) = false := decide_eq_false ht0
            have HE : Hid (NodesTo N (k + 1)) := HN.out.step hlt (HQ.out rfl) (fun h => absurd h ht1)
            go_wp2_with fail
            refine wp_region_later (by kernel_rfl) (by kernel_rfl) ?_
            repeat (go_big_quiet_step (fail))
            refine wpQuiet_nil ?_
            rintro _ ⟨x, rfl⟩
            go_wp2_with fail
            go_roundw
            case rel => exact ⟨k + 1, by omega, by go_num, HE, bx1.mono x.h, (by repeat (first | assumption | exact Below.refl _ _ | apply bw_alloc | apply bw_drew | apply bw_drewN | apply bw_later | apply bw_step))⟩
            case measure => simp [intOf]; omega
    · have HK : Hid (NodesTo N N.length) := by
        have := HN.out
        rwa [show k = N.length by omega] at this
      go_wp2_with fail
      go_loopw [5, 6, 7, 8] (fun i i6 i7 i8 wq => ∃ k : Nat, k ≤ N.length ∧ i = .int .i64 k ∧ Box wq w.heap.size [.slice A0 N.length c0, .slice A1 E.length c1, .int .i64 m] 25 ∧ Below w.heap.size w wq) (fun i _ _ _ _ => N.length - (intOf i).toNat)
      case atStart => exact ⟨0, Nat.zero_le _, rfl, bx, hbw⟩
      case round =>
        obtain ⟨j, hj, rfl, bxj, hbj⟩ := hrel
        have hblj := bxj.lt
        have u0 := bxj.cell 0 rfl
        have u1 := bxj.cell 1 rfl
        have u2 := bxj.cell 2 rfl
        clear x0 x1 x2
        by_cases hjt : j < N.length
        · obtain ⟨b, o, eA, hb, d0, d1, d2⟩ := (hs.mono hbj).nd_at hjt
          subst eA
          go_wp2_with fail
          refine (refExit_any _ A1 c0 c1 N E m N[j].fn _ hl (hs.mono hbj)).mono ?_
          rintro e w1 ⟨rfl, hb1⟩
          have bx1 := bxj.mono hb1
          have l1 := bx1.lt
          have u0' := bx1.cell 0 rfl
          have u1' := bx1.cell 1 rfl
          have u2' := bx1.cell 2 rfl
          generalize idxI (isKind N[j].fn 3) N = r3
          generalize idxI (isKind N[j].fn 4) N = r4
          go_wp2_with fail
          refine (refStart_any _ A1 c0 c1 N E m N[j].fn _ hl (hs.mono (below_step hbj hb1))).mono ?_
          rintro e w2 ⟨rfl, hb2⟩
          generalize idxI (isKind N[j].fn 1) N = r1
          have bx2 := bx1.mono hb2
          have hb12 := below_step (below_step hbj hb1) hb2
          by_cases q : r1 < 0 ∨ r3 < 0 ∨ r4 < 0
          · go_wp2_with fail
            all_goals (first | (go_ret; exact ⟨RetN.no (by decide), hb12⟩) | (exfalso; omega))
          · have q1 : ¬ r1 < 0 := fun h => q (Or.inl h)
            have q3 : ¬ r3 < 0 := fun h => q (Or.inr (Or.inl h))
            have q4 : ¬ r4 < 0 := fun h => q (Or.inr (Or.inr h))
            clear q
            go_wp2_with fail
            go_roundw
            case rel => exact ⟨j + 1, by omega, by go_num, bx2, hb12⟩
            case measure => simp [intOf]; omega
        · by_cases q1 : m < 0
          · go_wp2_with fail
            go_ret
            exact ⟨RetN.no (by decide), (by repeat (first | assumption | exact Below.refl _ _ | apply bw_alloc | apply bw_drew | apply bw_drewN | apply bw_later | apply bw_step))⟩
          by_cases q2 : m < N.length
          · obtain ⟨mi, rfl⟩ := Int.eq_ofNat_of_zero_le (Int.not_lt.1 q1)
            have hmi : mi < N.length := by omega
            obtain ⟨b, o, eA, hb, d0, d1, d2⟩ := (hs.mono hbj).nd_at hmi
            subst eA
            by_cases q3 : N[mi].kind = 1
            · go_wp2_with fail
              go_ret
              exact ⟨⟨0, rfl, fun _ => HK.out⟩, (by repeat (first | assumption | exact Below.refl _ _ | apply bw_alloc | apply bw_drew | apply bw_drewN | apply bw_later | apply bw_step))⟩
            · have n3 : (N[mi].kind != 1) = true := by simpa using q3
              go_wp2_with fail
              go_ret
              exact ⟨RetN.no (by decide), (by repeat (first | assumption | exact Below.refl _ _ | apply bw_alloc | apply bw_drew | apply bw_drewN | apply bw_later | apply bw_step))⟩
          · go_wp2_with fail
            go_ret
            exact ⟨RetN.no (by decide), (by repeat (first | assumption | exact Below.refl _ _ | apply bw_alloc | apply bw_drew | apply bw_drewN | apply bw_later | apply bw_step))⟩
end Go.Proofs.Ytikjafgemaahlaa
