/-
  Chapter 27: the reference's Check: where it returns OK, the nodes are as SuperEnds asks.
-/
import Derived.Test.YtikjafgemaahlaaSupD
namespace Go.Proofs.Ytikjafgemaahlaa
open Go.RowKit
set_option linter.unusedVariables false

set_option maxRecDepth 100000 in
set_option maxHeartbeats 2000000 in
theorem refCheck_any (A0 A1 : Option Addr) (c0 c1 : Nat) (N : List Nd) (E : List Sed) (m : Int) (w : World) (hl : N.length ≤ 200) (hle : E.length ≤ 200) (hs : Sl Lay.nd w A0 N) (hse : Sl Lay.sed w A1 E) :
    Calls Try.prog 4 #[.agg #[.slice A0 N.length c0, .slice A1 E.length c1, .int .i64 m]] w fun e w' => RetN N e ∧ Below w.heap.size w w' := by
  have hb0 : Below w.heap.size w (w.alloc (.cells #[.slice A0 N.length c0, .slice A1 E.length c1, .int .i64 m] 25)) := (by repeat (first | assumption | exact Below.refl _ _ | apply bw_alloc | apply bw_drew | apply bw_drewN | apply bw_later | apply bw_step))
  have bx0 := Box.new w [.slice A0 N.length c0, .slice A1 E.length c1, .int .i64 m] 25
  have n1 : ¬ (8192 : Int) < (N.length : Int) := by omega
  have n2 : ¬ (32768 : Int) < (E.length : Int) := by omega
  go_enter Try.func4, Try.ntmps4
  go_wp2_with fail
  refine (nodes_any A0 A1 c0 c1 N E m _ (by omega) (hs.mono hb0)).mono ?_
  rintro e w1 ⟨⟨n, rfl, hN⟩, hb1⟩
  have HN := Lib.hid hN
  clear hN
  have bx1 := bx0.mono hb1
  have hbw1 := below_step hb0 hb1
  by_cases hn : n = 0
  case neg =>
    have hn' : (n != 0) = true := by simpa using hn
    have HR : Hid (RetN N (.returned (.int .i64 n))) := RetN.no hn
    go_wp2_with fail
    go_ret
    exact ⟨HR.out, hbw1⟩
  subst hn
  have HK : Hid (NodesTo N N.length) := HN.out rfl
  clear HN hb0 bx0
  go_wp2_with fail
  go_loopw [4, 5, 6] (fun i i5 i6 wr => ∃ k : Nat, k ≤ E.length ∧ i = .int .i64 k ∧ Box wr w.heap.size [.slice A0 N.length c0, .slice A1 E.length c1, .int .i64 m] 25 ∧ Below w.heap.size w wr) (fun i _ _ _ => E.length - (intOf i).toNat)
  case atStart => exact ⟨0, Nat.zero_le _, rfl, bx1, hbw1⟩
  case round =>
    obtain ⟨k, hk, rfl, bx, hbw⟩ := hrel
    have hbl := bx.lt
    have x0 := bx.cell 0 rfl
    have x1 := bx.cell 1 rfl
    have x2 := bx.cell 2 rfl
    by_cases hlt : k < E.length
    case neg =>
      go_wp2_with fail
      go_ret
      exact ⟨⟨0, rfl, fun _ => HK.out⟩, hbw⟩
    obtain ⟨b, o, eA, hb, d0, d1, d2, d3⟩ := (hse.mono hbw).sed_at hlt
    subst eA
    go_upto_region 10 with fail
    generalize hW : World.alloc _ _ = W1
    have hb1' : Below wr.heap.size wr W1 := by rw [← hW]; exact (by repeat (first | assumption | exact Below.refl _ _ | apply bw_alloc | apply bw_drew | apply bw_drewN | apply bw_later | apply bw_step))
    have by1 : Box W1 wr.heap.size (cellsSed E[k]) 33 := by rw [← hW]; exact Box.new _ _ _
    clear hW
    have bxW := bx.mono hb1'
    have hbW := below_step hbw hb1'
    have hsW := hs.mono hbW
    have hseW := hse.mono hbW
    have l1 := bxW.lt
    have l2 := by1.lt
    have y0 := by1.cell 0 rfl
    have y1 := by1.cell 1 rfl
    have y2 := by1.cell 2 rfl
    have y3 := by1.cell 3 rfl
    have z0 := bxW.cell 0 rfl
    have z1 := bxW.cell 1 rfl
    have z2 := bxW.cell 2 rfl
    clear d0 d1 d2 d3 x0 x1 x2 hb hbl bx1 hbw1
    go_cut [6] (fun v wx => ∃ q : Bool, v = .bool q ∧ Hid (q = true ↔ (E[k].kind = 1 ∨ E[k].kind = 5)) ∧ W1 = wx)
    case first =>
      by_cases p1 : E[k].kind = 1
      · have HP : Hid (E[k].kind = 1 ∨ E[k].kind = 5) := Or.inl p1
        go_wp2_with fail
        go_meet
        exact ⟨_, rfl, ⟨fun _ => HP.out, fun _ => rfl⟩, rfl⟩
      by_cases p2 : E[k].kind = 5
      · have HP : Hid (E[k].kind = 1 ∨ E[k].kind = 5) := Or.inr p2
        go_wp2_with fail
        go_meet
        exact ⟨_, rfl, ⟨fun _ => HP.out, fun _ => rfl⟩, rfl⟩
      · have HP : Hid (¬ (E[k].kind = 1 ∨ E[k].kind = 5)) := fun h => h.elim p1 p2
        have p1' : (E[k].kind == 1) = false := by simpa using p1
        have p2' : (E[k].kind == 5) = false := by simpa using p2
        go_wp2_with fail
        go_meet
        exact ⟨_, rfl, ⟨(fun h => by cases h), fun h => absurd h HP.out⟩, rfl⟩
    case rest =>
    obtain ⟨q, rfl, HQ, rfl⟩ := hcut
    by_cases q1 : E[k].src < 0
    · go_wp2_with fail
      all_goals (go_ret; exact ⟨RetN.no (by decide), hbW⟩)
    by_cases q2 : E[k].src < N.length
    case neg =>
      go_wp2_with fail
      all_goals (go_ret; exact ⟨RetN.no (by decide), hbW⟩)
    by_cases q3 : E[k].dst < 0
    · go_wp2_with fail
      all_goals (go_ret; exact ⟨RetN.no (by decide), hbW⟩)
    by_cases q4 : E[k].dst < N.length
    case neg =>
      go_wp2_with fail
      all_goals (go_ret; exact ⟨RetN.no (by decide), hbW⟩)
    by_cases q5 : E[k].kind < 1
    · go_wp2_with fail
      all_goals (go_ret; exact ⟨RetN.no (by decide), hbW⟩)
    by_cases q6 : 5 < E[k].kind
    · go_wp2_with fail
      all_goals (go_ret; exact ⟨RetN.no (by decide), hbW⟩)
    obtain ⟨i, HI⟩ : ∃ i : Nat, Hid (E[k].src = (i : Int)) := (Int.eq_ofNat_of_zero_le (Int.not_lt.1 q1)).imp fun _ h => h
    obtain ⟨j, HJ⟩ : ∃ i : Nat, Hid (E[k].dst = (i : Int)) := (Int.eq_ofNat_of_zero_le (Int.not_lt.1 q3)).imp fun _ h => h
    have hi : i < N.length := by have := HI.out; omega
    have hj : j < N.length := by have := HJ.out; omega
    go_upto_region 15 with fail
    go_cut [76] (fun v wx => ∃ r : Bool, v = .bool r ∧ Hid (r = false → (E[k].kind = 1 ∨ E[k].kind = 5 ∨ E[k].kind = 2 ∨ (E[k].kind ≠ 1 ∧ E[k].kind ≠ 5 ∧ E[k].kind ≠ 2 ∧ ∃ c : Nat, c < N.length ∧ E[k].call = c))) ∧ W1 = wx)
    case first =>
      cases q with
      | true =>
        have HP : Hid (E[k].kind = 1 ∨ E[k].kind = 5 ∨ E[k].kind = 2 ∨ (E[k].kind ≠ 1 ∧ E[k].kind ≠ 5 ∧ E[k].kind ≠ 2 ∧ ∃ c : Nat, c < N.length ∧ E[k].call = c)) := by
          rcases HQ.out.1 rfl with h | h
          · exact Or.inl h
          · exact Or.inr (Or.inl h)
        by_cases q7 : E[k].call = -1
        · go_wp2_with fail
          go_meet
          exact ⟨_, rfl, fun _ => HP.out, rfl⟩
        · have q7' : (E[k].call != -1) = true := by simpa using q7
          go_wp2_with fail
          go_meet
          exact ⟨_, rfl, fun _ => HP.out, rfl⟩
      | false =>
        have HP : Hid (0 ≤ E[k].call → E[k].call < N.length → (E[k].kind = 1 ∨ E[k].kind = 5 ∨ E[k].kind = 2 ∨ (E[k].kind ≠ 1 ∧ E[k].kind ≠ 5 ∧ E[k].kind ≠ 2 ∧ ∃ c : Nat, c < N.length ∧ E[k].call = c))) := fun h1 h2 => by
          have h0 : ¬ (E[k].kind = 1 ∨ E[k].kind = 5) := fun h => by have := HQ.out.2 h; cases this
          obtain ⟨c, hc⟩ := Int.eq_ofNat_of_zero_le h1
          by_cases h3 : E[k].kind = 2
          · exact Or.inr (Or.inr (Or.inl h3))
          · exact Or.inr (Or.inr (Or.inr ⟨fun h => h0 (Or.inl h), fun h => h0 (Or.inr h), h3, c, by omega, hc⟩))
        by_cases q7 : E[k].call < 0
        · go_wp2_with fail
          go_meet
          exact ⟨_, rfl, (fun h => by cases h), rfl⟩
        by_cases q8 : E[k].call < N.length
        · have HP2 := Lib.hid (HP.out (Int.not_lt.1 q7) q8)
          go_wp2_with fail
          go_meet
          exact ⟨_, rfl, fun _ => HP2.out, rfl⟩
        · go_wp2_with fail
          go_meet
          exact ⟨_, rfl, (fun h => by cases h), rfl⟩
    case rest =>
      obtain ⟨r, rfl, HR, rfl⟩ := hcut
      cases r with
      | true =>
        go_wp2_with fail
        go_ret
        exact ⟨RetN.no (by decide), hbW⟩
      | false =>
        have HC : Hid (E[k].kind = 1 ∨ E[k].kind = 5 ∨ E[k].kind = 2 ∨ (E[k].kind ≠ 1 ∧ E[k].kind ≠ 5 ∧ E[k].kind ≠ 2 ∧ ∃ c : Nat, c < N.length ∧ E[k].call = c)) := HR.out rfl
        clear q1 q2 q3 q4 q5 q6 HR
        by_cases ht0 : (0 : Int) < (k : Int)
        · obtain ⟨k', hti, htl, hke⟩ : ∃ k' : Nat, (k : Int) - 1 = (k' : Int) ∧ ∃ htl : k' < E.length, k = k' + 1 := ⟨k - 1, by omega, by omega, by omega⟩
          have ht1 : 0 < k := by omega
          have ht2 : decide (0 < k) = true := decide_eq_true ht1
          have ht3 : decide ((0 : Int) < (k : Int)) = true := decide_eq_true ht0
          obtain ⟨b', o', e2, hb', f0, f1, f2, f3⟩ := hseW.sed_at htl
          injection e2 with e2
          injection e2 with e3 e4
          subst e3 e4
          have htI : (k' : Int) < (E.length : Int) := by omega
          have HQ2 := lessEdge_any E[k'] E[k]
          clear hke
          cases hq : ltE E[k'] E[k] with
          | true =>
            rw [hq] at HQ2
            clear hq
            go_wp2_with fail
            refine wp_region_later (by kernel_rfl) (by kernel_rfl) ?_
            repeat (go_big_quiet_step ((go_at_call 12; exact Calls.later (HQ2 _))))
            refine wpQuiet_nil ?_
            rintro _ ⟨x, rfl⟩
            rw [HI.out] at y0
            rw [HJ.out] at y1
            go_wp2_with fail
            refine (fits_any _ _ c0 c1 N E m i j E[k].kind E[k].call _ (by omega) (by omega) (hsW.mono x.h) (hseW.mono x.h) hi hj HC.out).mono ?_
            rintro e w3 ⟨⟨v3, rfl⟩, hb3⟩
            have hbx3 := bxW.mono (below_step x.h hb3)
            have hb3' := below_step hbW (below_step x.h hb3)
            cases v3 with
            | true =>
              go_wp2_with fail
              go_roundw
              case rel => exact ⟨k + 1, by omega, by go_num, hbx3, hb3'⟩
              case measure => simp [intOf]; omega
            | false =>
              go_wp2_with fail
              go_ret
              exact ⟨RetN.no (by decide), hb3'⟩
          | false =>
            rw [hq] at HQ2
            clear hq
            go_wp2_with fail
            refine wp_region_later (by kernel_rfl) (by kernel_rfl) ?_
            repeat (go_big_quiet_step ((go_at_call 12; exact Calls.later (HQ2 _))))
            refine wpQuiet_nil ?_
            rintro _ ⟨x, rfl⟩
            go_wp2_with fail
            go_ret
            exact ⟨RetN.no (by decide), (by repeat (first | assumption | exact Below.refl _ _ | apply bw_alloc | apply bw_drew | apply bw_drewN | apply bw_later | apply bw_step))⟩
        · have ht1 : ¬ 0 < k := by omega
          have ht2 : decide (0 < k) = false := decide_eq_false ht1
          have ht3 : decide ((0 : Int) < (k : Int)) = false := decide_eq_false ht0
          go_wp2_with fail
          refine wp_region_later (by kernel_rfl) (by kernel_rfl) ?_
          repeat (go_big_quiet_step (fail))
          refine wpQuiet_nil ?_
          rintro _ ⟨x, rfl⟩
          rw [HI.out] at y0
          rw [HJ.out] at y1
          go_wp2_with fail
          refine (fits_any _ _ c0 c1 N E m i j E[k].kind E[k].call _ (by omega) (by omega) (hsW.mono x.h) (hseW.mono x.h) hi hj HC.out).mono ?_
          rintro e w3 ⟨⟨v3, rfl⟩, hb3⟩
          have hbx3 := bxW.mono (below_step x.h hb3)
          have hb3' := below_step hbW (below_step x.h hb3)
          cases v3 with
          | true =>
            go_wp2_with fail
            go_roundw
            case rel => exact ⟨k + 1, by omega, by go_num, hbx3, hb3'⟩
            case measure => simp [intOf]; omega
          | false =>
            go_wp2_with fail
            go_ret
            exact ⟨RetN.no (by decide), hb3'⟩
end Go.Proofs.Ytikjafgemaahlaa
