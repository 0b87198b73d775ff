/-
  Chapter 27: the law SuperEnds.
-/
import Derived.Test.YtikjafgemaahlaaSupJ
namespace Go.Proofs.Ytikjafgemaahlaa
open Go.RowKit
set_option linter.unusedVariables false

theorem ltN_iff {x y : Nd} : ltN x y = true ↔ (x.fn < y.fn ∨ (x.fn = y.fn ∧ (x.kind < y.kind ∨ (x.kind = y.kind ∧ x.instr < y.instr)))) := by
  unfold ltN
  split
  · split
    · simp; omega
    · simp; omega
  · simp; omega
theorem ltN_trans {x y z : Nd} (h1 : ltN x y = true) (h2 : ltN y z = true) : ltN x z = true := by
  rw [ltN_iff] at *; omega
theorem NodesTo.asc {N : List Nd} (h : NodesTo N N.length) : ∀ (d a : Nat) (hb : a + d + 1 < N.length), ltN (N[a]'(by omega)) N[a + d + 1] = true
  | 0, a, hb => by have := (h (a + 1) hb hb).2 (by omega); exact this
  | d + 1, a, hb => by
    have h1 := asc h d a (by omega)
    have h2 := (h (a + (d + 1) + 1) hb hb).2 (by omega)
    exact ltN_trans h1 h2
theorem NodesTo.lt {N : List Nd} (h : NodesTo N N.length) {a b : Nat} (hab : a < b) (hb : b < N.length) : ltN (N[a]'(by omega)) N[b] = true := by
  obtain ⟨d, rfl⟩ : ∃ d, b = a + d + 1 := ⟨b - a - 1, by omega⟩
  exact h.asc d a hb
theorem NodesTo.node {N : List Nd} (h : NodesTo N N.length) {i : Nat} (hi : i < N.length) : idxI (isNd N[i]) N = i := by
  refine idxI_at hi (fun j hj => ?_) (isNd_refl _)
  have h1 := h.lt hj hi
  cases hq : isNd N[i] (N[j]'(by omega)) with
  | false => rfl
  | true =>
    rw [isNd_iff.1 hq, ltN_iff] at h1
    omega
theorem NodesTo.start {N : List Nd} (h : NodesTo N N.length) {i : Nat} (hi : i < N.length) (hk : N[i].kind = 1) : idxI (isKind N[i].fn 1) N = i := by
  refine idxI_at hi (fun j hj => ?_) (by simp [isKind, hk])
  have h1 := h.lt hj hi
  have hjl : j < N.length := by omega
  cases hq : isKind N[i].fn 1 (N[j]'hjl) with
  | false => rfl
  | true =>
    simp [isKind] at hq
    have h2 := (h i hi hi).1 (by omega)
    have h3 := (h j hjl hjl).1 (by omega)
    rw [ltN_iff] at h1
    omega

set_option maxRecDepth 100000 in
set_option maxHeartbeats 2000000 in
theorem walk_SuperEnds (w : World) (A0 A1 : Option Addr) (c0 c1 : Nat) (N : List Nd) (E : List Sed) (m : Int) (hl : N.length ≤ maxLen) (hle : E.length ≤ maxLen) (hs : Sl Lay.nd w A0 N) (hse : Sl Lay.sed w A1 E) :
    Calls Try.prog 3 #[.agg #[.slice A0 N.length c0, .slice A1 E.length c1, .int .i64 m]] w fun e w' => e = .returned (.bool true) ∧ Below w.heap.size w w' := by
  have hb0 : Below w.heap.size w (w.alloc (.cells #[.slice A0 N.length c0, .slice A1 E.length c1, .int .i64 m] 25)) := (by repeat (first | assumption | exact Below.refl _ _ | apply bw_alloc | apply bw_drew | apply bw_drewN | apply bw_later | apply bw_step))
  have bx0 := Box.new w [.slice A0 N.length c0, .slice A1 E.length c1, .int .i64 m] 25
  unfold maxLen at hl hle
  by_cases n1 : 200 < (N.length : Int)
  · go_enter Try.func3, Try.ntmps3
    go_wp2_with fail
    refine (awake_any _).mono ?_
    rintro e w1 ⟨rfl, hb1⟩
    go_wp2_with fail
    go_ret
    exact ⟨rfl, below_step hb0 hb1⟩
  by_cases n2 : 200 < (E.length : Int)
  · go_enter Try.func3, Try.ntmps3
    go_wp2_with fail
    refine (awake_any _).mono ?_
    rintro e w1 ⟨rfl, hb1⟩
    go_wp2_with fail
    go_ret
    exact ⟨rfl, below_step hb0 hb1⟩
  have hl' : N.length ≤ 200 := by omega
  have hle' : E.length ≤ 200 := by omega
  go_enter Try.func3, Try.ntmps3
  go_wp2_with fail
  refine (refCheck_any A0 A1 c0 c1 N E m _ hl' hle' (hs.mono hb0) (hse.mono hb0)).mono ?_
  rintro e w1 ⟨⟨n, rfl, hN⟩, hb1⟩
  have HN := Lib.hid hN
  clear hN
  have bx1 := bx0.mono hb1
  have hbw1 := below_step hb0 hb1
  by_cases hn : n = 0
  case neg =>
    have hn' : (n != 0) = true := by simpa using hn
    go_wp2_with fail
    refine (awake_any _).mono ?_
    rintro e w2 ⟨rfl, hb2⟩
    go_wp2_with fail
    go_ret
    exact ⟨rfl, below_step hbw1 hb2⟩
  subst hn
  have HK : Hid (NodesTo N N.length) := HN.out rfl
  clear HN hb0 bx0
  go_wp2_with fail
  go_loopw [3] (fun i wr => ∃ k : Nat, k ≤ E.length ∧ i = .int .i64 k ∧ Box wr w.heap.size [.slice A0 N.length c0, .slice A1 E.length c1, .int .i64 m] 25 ∧ Below w.heap.size w wr) (fun i _ => E.length - (intOf i).toNat)
  case atStart => exact ⟨0, Nat.zero_le _, rfl, bx1, hbw1⟩
  case round =>
    obtain ⟨k, hk, rfl, bx, hbw⟩ := hrel
    clear bx1 hbw1
    have bl := bx.lt
    have x0 := bx.cell 0 rfl
    have x1 := bx.cell 1 rfl
    have x2 := bx.cell 2 rfl
    by_cases hlt : k < E.length
    · obtain ⟨b, o, eA, hb, d0, d1, d2, d3⟩ := (hse.mono hbw).sed_at hlt
      subst eA
      have HM1 : Hid (decide ((k : Int) ∈ idxs (fun x => decide (x.src = E[k].src)) E E.length) = true) := decide_eq_true (mem_idxs hlt (by simp) _ hlt)
      have HM2 : Hid (decide ((k : Int) ∈ idxs (fun x => decide (x.dst = E[k].dst)) E E.length) = true) := decide_eq_true (mem_idxs hlt (by simp) _ hlt)
      go_wp2_with fail
      refine wp_region_RW 24 (by kernel_rfl) (by kernel_rfl) ?_
      refine RW.chunk (f := 16) [0, 1, 2, 3, 4, 5, 6, 8] (by kernel_rfl) ?_
      ((simp only [pickOps, List.filterMap, List.getElem?_toArray, List.getElem?_cons_zero, List.getElem?_cons_succ]); (repeat (go_big_quiet_step (fail))); refine wpQuiet_nil ?_)
      refine RW.single 7 rfl (by kernel_rfl) (by omega) ?_
      intro K hK
      go_wp2_with fail
      refine (out_any A0 _ c0 c1 N E m E[k].src _ (by omega) (hse.mono hbw.drew)).mono ?_
      rintro e w2 ⟨v, rfl, hv, hb2⟩
      obtain ⟨B, cB, rfl, hcB, hsB⟩ := hv.sl (L := Lay.int) rfl (fun x => rfl)
      go_wp2_with fail
      refine hK _ _ hb2 ?_
      clear hK
      refine RW.single 9 rfl (by kernel_rfl) (by omega) ?_
      intro K hK
      go_wp2_with fail
      refine (lawIn_any B cB _ k _ (by have := idxs_len (fun x : Sed => decide (x.src = E[k].src)) E E.length; omega) hsB).mono ?_
      rintro e w3 ⟨rfl, rfl⟩
      rw [HM1.out]
      go_wp2_with fail
      refine hK _ _ (Below.refl _ _) ?_
      clear hK
      have hbw2 := below_step hbw.drew hb2
      have bx2 := (bx.drew).mono hb2
      have bl2 := bx2.lt
      have y0 := bx2.cell 0 rfl
      have y1 := bx2.cell 1 rfl
      have y2 := bx2.cell 2 rfl
      obtain ⟨b', o', eB, hb', f0, f1, f2, f3⟩ := (hse.mono hbw2).sed_at hlt
      injection eB with eB
      injection eB with e1 e2
      subst e1 e2
      clear x0 x1 x2 bl d0 d1 d2 d3 hb
      refine RW.chunk (f := 4) [10, 11, 12, 13, 14, 15, 16, 17, 18, 20] (by kernel_rfl) ?_
      ((simp only [pickOps, List.filterMap, List.getElem?_toArray, List.getElem?_cons_zero, List.getElem?_cons_succ]); (repeat (go_big_quiet_step (fail))); refine wpQuiet_nil ?_)
      refine RW.single 19 rfl (by kernel_rfl) (by omega) ?_
      intro K hK
      go_wp2_with fail
      refine (in_any A0 _ c0 c1 N E m E[k].dst _ (by omega) (hse.mono hbw2)).mono ?_
      rintro e w4 ⟨v, rfl, hv4, hb4⟩
      obtain ⟨B4, cB4, rfl, hcB4, hsB4⟩ := hv4.sl (L := Lay.int) rfl (fun x => rfl)
      go_wp2_with fail
      refine hK _ _ hb4 ?_
      clear hK
      refine RW.single 21 rfl (by kernel_rfl) (by omega) ?_
      intro K hK
      go_wp2_with fail
      refine (lawIn_any B4 cB4 _ k _ (by have := idxs_len (fun x : Sed => decide (x.dst = E[k].dst)) E E.length; omega) hsB4).mono ?_
      rintro e w5 ⟨rfl, rfl⟩
      rw [HM2.out]
      go_wp2_with fail
      refine hK _ _ (Below.refl _ _) ?_
      clear hK
      refine RW.chunk (f := 0) [22, 23] (by kernel_rfl) ?_
      ((simp only [pickOps, List.filterMap, List.getElem?_toArray, List.getElem?_cons_zero, List.getElem?_cons_succ]); (repeat (go_big_quiet_step (fail))); refine wpQuiet_nil ?_)
      (refine RW.done (by kernel_rfl) (by kernel_rfl) ?_)
      go_wp2_with fail
      go_roundw
      case rel => exact ⟨k + 1, by omega, by go_num, bx2.mono hb4, below_step hbw2 hb4⟩
      case measure => simp [intOf]; omega
    · go_wp2_with fail
      obtain ⟨wo, rfl⟩ : ∃ wo : World, wo = wr := ⟨_, rfl⟩
      go_loopw [4] (fun i wr => ∃ k : Nat, k ≤ N.length ∧ i = .int .i64 k ∧ Box wr w.heap.size [.slice A0 N.length c0, .slice A1 E.length c1, .int .i64 m] 25 ∧ Below w.heap.size w wr) (fun i _ => N.length - (intOf i).toNat)
      case atStart => exact ⟨0, Nat.zero_le _, rfl, bx, hbw⟩
      case round =>
        clear x0 x1 x2 bl bx hbw
        obtain ⟨j, hj, rfl, bx, hbw⟩ := hrel
        have bl := bx.lt
        have x0 := bx.cell 0 rfl
        have x1 := bx.cell 1 rfl
        have x2 := bx.cell 2 rfl
        by_cases hjt : j < N.length
        · obtain ⟨b, o, eA, hb, d0, d1, d2⟩ := (hs.mono hbw).nd_at hjt
          subst eA
          have Hn := fun w (h : Sl Lay.nd w (some ⟨b, o, none⟩) N) => node_any (some ⟨b, o, none⟩) A1 c0 c1 N E m N[j] w (by omega) h
          rw [HK.out.node hjt] at Hn
          by_cases q : N[j].kind = 1
          · have Hs := fun w (h : Sl Lay.nd w (some ⟨b, o, none⟩) N) => start_any (some ⟨b, o, none⟩) A1 c0 c1 N E m N[j].fn w (by omega) h
            rw [HK.out.start hjt q] at Hs
            rw [q] at d1
            rw [q] at Hn
            clear q
            go_wp2_with fail
            refine wp_region_later (by kernel_rfl) (by kernel_rfl) ?_
            repeat (go_big_quiet_step (first | (go_at_call 9; exact Calls.later (Hn _ ((hs.mono hbw).later _))) | (go_at_call 10; exact Calls.later (Hs _ ((hs.mono hbw).later _)))))
            refine wpQuiet_nil ?_
            rintro _ ⟨x, rfl⟩
            go_wp2_with fail
            go_roundw
            case rel => exact ⟨j + 1, by omega, by go_num, bx.mono x.h, (by repeat (first | assumption | exact Below.refl _ _ | apply bw_alloc | apply bw_drew | apply bw_drewN | apply bw_later | apply bw_step))⟩
            case measure => simp [intOf]; omega
          · have q' : (N[j].kind == 1) = false := by simpa using q
            go_wp2_with fail
            refine wp_region_later (by kernel_rfl) (by kernel_rfl) ?_
            repeat (go_big_quiet_step ((go_at_call 9; exact Calls.later (Hn _ ((hs.mono hbw).later _)))))
            refine wpQuiet_nil ?_
            rintro _ ⟨x, rfl⟩
            go_wp2_with fail
            go_roundw
            case rel => exact ⟨j + 1, by omega, by go_num, bx.mono x.h, (by repeat (first | assumption | exact Below.refl _ _ | apply bw_alloc | apply bw_drew | apply bw_drewN | apply bw_later | apply bw_step))⟩
            case measure => simp [intOf]; omega
        · go_wp2_with fail
          refine (awake_any _).mono ?_
          rintro e w2 ⟨rfl, hb2⟩
          go_wp2_with fail
          go_ret
          exact ⟨rfl, below_step hbw hb2⟩
end Go.Proofs.Ytikjafgemaahlaa
