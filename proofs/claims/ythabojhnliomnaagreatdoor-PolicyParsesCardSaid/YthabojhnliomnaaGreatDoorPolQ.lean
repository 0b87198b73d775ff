/-
  Chapter 42: the reference's check of a policy, and the law about checks.
-/
import Derived.Test.YthabojhnliomnaaGreatDoorPolP
import Derived.Test.YthabojhnliomnaaGreatDoorPolG
namespace Go.Proofs.YthabojhnliomnaaGreatDoor
open Go.RowKit
set_option linter.unusedVariables false

/-- The reference's search for an earlier protocol of that class: the error found so far. -/
structure PtAt (ps : List Ptc) (k : Nat) (hk : k < ps.length) (j : Nat) (q : Int) : Prop where
  zero : q = 0 → ptcE ps[k] = 0 ∧ ∀ j' (hl : j' < ps.length), j' < j → (ps[j'].cls.toList == ps[k].cls.toList) = false
  pos : q ≠ 0 → q = ptF ps k
theorem PtAt.start {ps : List Ptc} {k : Nat} (hk : k < ps.length) : PtAt ps k hk 0 (ptcE ps[k]) :=
  ⟨fun h => ⟨h, fun _ _ h => by omega⟩, fun h => by rw [ptF_at hk, if_pos h]⟩
theorem PtAt.step {ps : List Ptc} {k : Nat} {hk : k < ps.length} {j : Nat} (h : PtAt ps k hk j 0) (hj : j < k) : ((ps[j].cls.toList == ps[k].cls.toList) = false → PtAt ps k hk (j + 1) 0) ∧ ((ps[j].cls.toList == ps[k].cls.toList) = true → PtAt ps k hk (j + 1) 7) := by
  obtain ⟨h1, h2⟩ := h.zero rfl
  constructor
  · intro hc
    refine ⟨fun _ => ⟨h1, fun j' hl h => ?_⟩, fun h => absurd rfl h⟩
    by_cases e : j' = j
    · subst e; exact hc
    · exact h2 j' hl (by omega)
  · intro hc
    refine ⟨fun h => by omega, fun _ => ?_⟩
    rw [ptF_at hk, if_neg (by rw [h1]; simp), if_pos (metB_yes hj (by omega) hc)]
theorem PtAt.fin {ps : List Ptc} {k : Nat} {hk : k < ps.length} {j : Nat} {q : Int} (h : PtAt ps k hk j q) (he : q ≠ 0 ∨ j = k) : q = ptF ps k := by
  by_cases hq : q = 0
  · rcases he with he | rfl
    · exact absurd hq he
    · obtain ⟨h1, h2⟩ := h.zero hq
      rw [ptF_at hk, if_neg (by rw [h1]; simp), metB_no h2, hq]
      simp
  · exact h.pos hq
set_option maxRecDepth 100000 in
set_option maxHeartbeats 4000000 in
theorem refPolCheck_any (p : Pol) (A A2 : Option Addr) (c c2 : Nat) (w : World) (hok : Hid (OkPol p)) (hc2 : p.protocols.length ≤ c2) (hs : Sl Lay.rul w A p.rules) (hs2 : Sl Lay.ptc w A2 p.protocols) :
    Calls Tryz.prog 11 #[.agg #[.slice A p.rules.length c, .slice A2 p.protocols.length c2]] w fun e w' => e = .returned (.tuple #[.int .i64 (polE p).1, .int .i64 (polE p).2]) ∧ Below w.heap.size w w' := by
  obtain ⟨r, HR⟩ : ∃ r, Hid (r = polE p) := ⟨_, Lib.hid rfl⟩
  rw [← HR.out]
  have HRET : Hid (∀ a b : Int, r = (a, b) → (Ending.returned (.tuple #[.int .i64 a, .int .i64 b]) = Ending.returned (.tuple #[.int .i64 r.1, .int .i64 r.2]))) := fun a b h => by rw [h]
  have okr := Lib.hid hok.out.r
  have okp := Lib.hid hok.out.p
  have okl := hok.out.rl
  have okm := hok.out.pl
  obtain ⟨rs, ps⟩ := p
  simp only at okl okm hs hs2 hc2 ⊢
  have bx0 := Box.new w [.slice A rs.length c, .slice A2 ps.length c2] 25
  have hb0 : Below w.heap.size w (w.alloc (.cells #[.slice A rs.length c, .slice A2 ps.length c2] 25)) := (by repeat (first | assumption | exact Below.refl _ _ | apply bw_alloc | apply bw_drew | apply bw_drewN | apply bw_later | apply bw_step))
  go_enter Tryz.func11, Tryz.ntmps11
  by_cases hl1 : 64 < rs.length
  · have HB : Hid (r = (-1, 3)) := by show _ = _; rw [HR.out]; exact polE_long (Or.inl hl1)
    go_wp2_with fail
    go_ret2
    exact ⟨HRET.out _ _ HB.out, hb0⟩
  by_cases hl2 : 64 < ps.length
  · have HB : Hid (r = (-1, 3)) := by show _ = _; rw [HR.out]; exact polE_long (Or.inr hl2)
    go_wp2_with fail
    go_ret2
    exact ⟨HRET.out _ _ HB.out, hb0⟩
  have HL : Hid (¬ (64 < rs.length ∨ 64 < ps.length)) := fun h => by omega
  go_wp2_with fail
  go_loopw [4] (fun i wr => ∃ k : Nat, k ≤ rs.length ∧ i = .int .i64 k ∧ Hid (firstE (rlF rs) k = 0) ∧ Box wr w.heap.size [.slice A rs.length c, .slice A2 ps.length c2] 25 ∧ Below w.heap.size w wr) (fun i _ => rs.length - (intOf i).toNat)
  case atStart => exact ⟨0, Nat.zero_le _, rfl, Lib.hid rfl, bx0, hb0⟩
  case round =>
    clear bx0 hb0
    obtain ⟨k, hk, rfl, HN, hbx, hbw⟩ := hrel
    have p0 := hbx.cell 0 rfl
    have pl := hbx.lt
    by_cases hlt : k < rs.length
    · obtain ⟨b, o, A5, c5, rfl, hb, d0, d1, d2, d3, d4, d5, d6, d7, hc5, hs5⟩ := (hs.mono hbw).rul_at hlt
      have HC : Hid (∀ W, Below wr.heap.size wr W → Calls Tryz.prog 30 #[.agg #[.int .i64 rs[k].kind, .string rs[k].cls, .string rs[k].mth, .int .i64 rs[k].pth.root, .int .i64 rs[k].pth.n, .slice A5 rs[k].pth.fields.length c5, .bool rs[k].pth.star, .string rs[k].tag]] W fun e w' => e = .returned (.int .i64 (rulE rs[k])) ∧ Below W.heap.size W w') := fun W hW => refRule_any rs[k] A5 c5 W (Lib.hid (okr.out _ (List.getElem_mem hlt))) (hs5.mono hW)
      have HF := Lib.hid (rlF_at hlt)
      go_wp2_with fail
      refine (HC.out _ (Below.refl _ _)).mono ?_
      rintro e w2 ⟨rfl, hb2⟩
      have hbx2 := hbx.mono hb2
      have hbw2 := below_step hbw hb2
      by_cases hq : rulE rs[k] = 0
      · have HE : Hid (firstE (rlF rs) (k + 1) = 0) := firstE_pass HN.out (by rw [HF.out, hq])
        rw [hq]
        clear hq
        go_wp2_with fail
        go_roundw
        case rel => exact ⟨k + 1, by omega, by go_num, HE, hbx2, hbw2⟩
        case measure => simp [intOf]; omega
      · have HB : Hid (r = ((k : Int), rulE rs[k])) := by show _ = _; rw [HR.out]; exact polE_rule HL.out hlt HN.out hq
        have tq : (rulE rs[k] != 0) = true := by simpa using hq
        generalize rulE rs[k] = q at *
        clear hq
        go_wp2_with fail
        go_ret2
        exact ⟨HRET.out _ _ HB.out, hbw2⟩
    · obtain rfl : k = rs.length := by omega
      have HNR : Hid (firstE (rlF rs) rs.length = 0) := HN.out
      clear HN hlt hk
      go_wp2_with fail
      clear p0 pl
      obtain ⟨wo, rfl⟩ : ∃ wo : World, wo = wr := ⟨_, rfl⟩
      go_loopw [6] (fun i wr => ∃ k : Nat, k ≤ ps.length ∧ i = .int .i64 k ∧ Hid (firstE (ptF ps) k = 0) ∧ Box wr w.heap.size [.slice A rs.length c, .slice A2 ps.length c2] 25 ∧ Below w.heap.size w wr) (fun i _ => ps.length - (intOf i).toNat)
      case atStart => exact ⟨0, Nat.zero_le _, rfl, Lib.hid rfl, hbx, hbw⟩
      case round =>
        clear hbx hbw
        obtain ⟨k, hk, rfl, HN, hbx, hbw⟩ := hrel
        have p1 := hbx.cell 1 rfl
        have pl := hbx.lt
        by_cases hlt : k < ps.length
        · obtain ⟨b, o, A5, c5, A6, c6, rfl, hb, d0, d1, d2, d3, d4, hc5, hs5, hc6, hs6⟩ := (hs2.mono hbw).ptc_at hlt
          have HC : Hid (∀ W, Below wr.heap.size wr W → Calls Tryz.prog 31 #[.agg #[.string ps[k].cls, .slice A5 ps[k].states.length c5, .int .i64 ps[k].start, .int .i64 ps[k].err, .slice A6 ps[k].moves.length c6]] W fun e w' => e = .returned (.int .i64 (ptcE ps[k])) ∧ Below W.heap.size W w') := fun W hW => refPtcCheck_any ps[k] A5 A6 c5 c6 W (Lib.hid (okp.out _ (List.getElem_mem hlt))) hc5 (hs5.mono hW) (hs6.mono hW)
          have HHIT : Hid (ptF ps k ≠ 0 → r = ((rs.length : Int) + k, ptF ps k)) := fun h => by rw [HR.out]; exact polE_ptc HL.out HNR.out hlt HN.out h
          have HST := Lib.hid (PtAt.start hlt)
          go_wp2_with fail
          refine (HC.out _ (Below.refl _ _)).mono ?_
          rintro e w2 ⟨rfl, hb2⟩
          have hbx2 := hbx.mono hb2
          have hbw2 := below_step hbw hb2
          clear d0 d1 d2 d3 d4 HC p1 pl
          go_wp2_with fail
          obtain ⟨wq, rfl⟩ : ∃ wq : World, wq = wr := ⟨_, rfl⟩
          go_loopw [7, 8] (fun v7 v8 wr => ∃ (j : Nat) (q : Int), j ≤ k ∧ v8 = .int .i64 j ∧ v7 = .int .i64 q ∧ Hid (PtAt ps k hlt j q) ∧ Below w2.heap.size w2 wr) (fun v7 v8 _ => k - (intOf v8).toNat)
          case atStart => exact ⟨0, _, Nat.zero_le _, rfl, rfl, HST, Below.refl _ _⟩
          case round =>
            clear HST
            obtain ⟨j, q, hj, rfl, rfl, HM, hbr⟩ := hrel
            have hbx3 := hbx2.mono hbr
            have hbw3 := below_step hbw2 hbr
            have r0 := hbx3.cell 0 rfl
            have r1 := hbx3.cell 1 rfl
            have rl := hbx3.lt
            by_cases hq : q = 0
            · subst hq
              by_cases hjk : j < k
              · have HSTEP := Lib.hid (HM.out.step hjk)
                obtain ⟨b', o', A7, c7, A8, c8, eA, hb', d0, d1, d2, d3, d4, hc7, hs7, hc8, hs8⟩ := (hs2.mono hbw3).ptc_at (i := j) (by omega)
                injection eA with eA
                injection eA with z1 z2
                subst z1 z2
                obtain ⟨b', o', A9, c9, A10, c10, eA, hb'', e0, e1, e2, e3, e4, hc9, hs9, hc10, hs10⟩ := (hs2.mono hbw3).ptc_at hlt
                injection eA with eA
                injection eA with z1 z2
                subst z1 z2
                cases hcl : (ps[j].cls.toList == ps[k].cls.toList) with
                | true =>
                  have HN2 := Lib.hid (HSTEP.out.2 hcl)
                  go_wp2_with fail
                  refine wp_region_later (by kernel_rfl) (by kernel_rfl) ?_
                  repeat (go_big_quiet_step (fail))
                  refine wpQuiet_nil ?_
                  rintro _ ⟨x, rfl⟩
                  go_wp2_with fail
                  go_roundw
                  case rel => exact ⟨j + 1, 7, by omega, by go_num, rfl, HN2, below_step hbr x.h⟩
                  case measure => simp [intOf]; omega
                | false =>
                  have HN2 := Lib.hid (HSTEP.out.1 hcl)
                  go_wp2_with fail
                  refine wp_region_later (by kernel_rfl) (by kernel_rfl) ?_
                  repeat (go_big_quiet_step (fail))
                  refine wpQuiet_nil ?_
                  rintro _ ⟨x, rfl⟩
                  go_wp2_with fail
                  go_roundw
                  case rel => exact ⟨j + 1, 0, by omega, by go_num, rfl, HN2, below_step hbr x.h⟩
                  case measure => simp [intOf]; omega
              · have HE : Hid (firstE (ptF ps) (k + 1) = 0) := firstE_pass HN.out (HM.out.fin (Or.inr (by omega))).symm
                go_wp2_with fail
                go_roundw
                case rel => exact ⟨k + 1, by omega, by go_num, HE, hbx3, hbw3⟩
                case measure => simp [intOf]; omega
            · have HE := Lib.hid (HM.out.fin (Or.inl hq))
              have HB : Hid (r = ((rs.length : Int) + k, q)) := by
                show _ = _
                rw [HHIT.out (by rw [← HE.out]; exact hq), HE.out]
              have tq : (q != 0) = true := by simpa using hq
              have tq2 : (q == 0) = false := by simpa using hq
              clear hq
              by_cases hjk : j < k
              · go_wp2_with fail
                go_ret2
                exact ⟨HRET.out _ _ HB.out, hbw3⟩
              · go_wp2_with fail
                go_ret2
                exact ⟨HRET.out _ _ HB.out, hbw3⟩
        · obtain rfl : k = ps.length := by omega
          have HB : Hid (r = (0, 0)) := by show _ = _; rw [HR.out]; exact polE_ok HL.out HNR.out HN.out
          go_wp2_with fail
          go_ret2
          exact ⟨HRET.out _ _ HB.out, hbw⟩
set_option maxRecDepth 100000 in
set_option maxHeartbeats 2000000 in
theorem walk_PolicyChecks (p : Pol) (A A2 : Option Addr) (c c2 : Nat) (w : World) (hg : Glob w) (hok : Hid (OkPol p)) (hc2 : p.protocols.length ≤ c2) (hs : Sl Lay.rul w A p.rules) (hs2 : Sl Lay.ptc w A2 p.protocols) :
    Calls Tryz.prog 3 #[.agg #[.slice A p.rules.length c, .slice A2 p.protocols.length c2]] w fun e w' => e = .returned (.bool true) ∧ Below w.heap.size w w' := by
  have bx0 := Box.new w [.slice A p.rules.length c, .slice A2 p.protocols.length c2] 25
  have hb0 : Below w.heap.size w (w.alloc (.cells #[.slice A p.rules.length c, .slice A2 p.protocols.length c2] 25)) := (by repeat (first | assumption | exact Below.refl _ _ | apply bw_alloc | apply bw_drew | apply bw_drewN | apply bw_later | apply bw_step))
  have HA := Lib.hid (fun W h => polCheck_any p A A2 c c2 W hok (hg.mono h).kw hc2 (hs.mono h) (hs2.mono h))
  have HB := Lib.hid (fun W h => refPolCheck_any p A A2 c c2 W hok hc2 (hs.mono h) (hs2.mono h))
  generalize polE p = r at *
  obtain ⟨r1, r2⟩ := r
  have t1 : (r1 == r1) = true := by simp
  have t2 : (r2 == r2) = true := by simp
  go_enter Tryz.func3, Tryz.ntmps3
  go_wp2_with fail
  refine (HA.out _ hb0).mono ?_
  rintro e w1 ⟨rfl, hb1⟩
  have bx1 := bx0.mono hb1
  have hbw1 := below_step hb0 hb1
  have p0 := bx1.cell 0 rfl
  have p1 := bx1.cell 1 rfl
  have pl := bx1.lt
  go_wp2_with fail
  refine (HB.out _ hbw1).mono ?_
  rintro e w2 ⟨rfl, hb2⟩
  have hbw2 := below_step hbw1 hb2
  go_wp2_with fail
  refine (awake_any _ (hg.mono hbw2)).mono ?_
  rintro e w3 ⟨rfl, hb3⟩
  go_wp2_with fail
  go_ret
  exact ⟨rfl, below_step hbw2 hb3⟩
end Go.Proofs.YthabojhnliomnaaGreatDoor
