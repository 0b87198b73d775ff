/-
  Chapter 39: the reference's check of a protocol.
-/
import Derived.Test.YthabojhnliomnaaGreatDoorPolN
namespace Go.Proofs.YthabojhnliomnaaGreatDoor
open Go.RowKit
set_option linter.unusedVariables false

set_option maxRecDepth 100000 in
set_option maxHeartbeats 4000000 in
theorem refPtcCheck_any (p : Ptc) (A1 A4 : Option Addr) (c1 c4 : Nat) (w : World) (hok : Hid (OkPtc p)) (hc1 : p.states.length ≤ c1) (hs1 : Sl Lay.str w A1 p.states) (hs4 : Sl Lay.mov w A4 p.moves) :
    Calls Tryz.prog 31 #[.agg #[.string p.cls, .slice A1 p.states.length c1, .int .i64 p.start, .int .i64 p.err, .slice A4 p.moves.length c4]] w fun e w' => e = .returned (.int .i64 (ptcE p)) ∧ Below w.heap.size w w' := by
  obtain ⟨r, HR⟩ : ∃ r, Hid (r = ptcE p) := ⟨_, Lib.hid rfl⟩
  rw [← HR.out]
  obtain ⟨cl, sts, st, er, mvs⟩ := p
  obtain ⟨ok1, ok2, ok3, ok4, ok5⟩ := hok.out
  replace ok3 := Lib.hid ok3
  replace ok5 := Lib.hid ok5
  have bx0 := Box.new w [.string cl, .slice A1 sts.length c1, .int .i64 st, .int .i64 er, .slice A4 mvs.length c4] 63
  have hb0 : Below w.heap.size w (w.alloc (.cells #[.string cl, .slice A1 sts.length c1, .int .i64 st, .int .i64 er, .slice A4 mvs.length c4] 63)) := (by repeat (first | assumption | exact Below.refl _ _ | apply bw_alloc | apply bw_drew | apply bw_drewN | apply bw_later | apply bw_step))
  simp only at ok1 ok2 ok4 hs1 hs4 hc1 ⊢
  go_enter Tryz.func31, Tryz.ntmps31
  go_wp2_with fail
  refine (refIdent_any cl _ ok1).mono ?_
  rintro e w1 ⟨rfl, hb1⟩
  have bx1 := bx0.mono hb1
  have hbw1 := below_step hb0 hb1
  clear hb0 hb1 bx0
  have p1 := bx1.cell 1 rfl
  have p4 := bx1.cell 4 rfl
  have pl := bx1.lt
  cases hid : identB cl with
  | false =>
    have HB : Hid (r = 5) := by show _ = _; rw [HR.out]; unfold ptcE; rw [if_pos hid]
    go_wp2_with fail
    go_ret
    exact ⟨by rw [HB.out]; rfl, hbw1⟩
  | true =>
  have HP1 : Hid (r = if 16 < sts.length ∨ 256 < mvs.length then 3 else if sts.length = 0 then 4 else
      if firstE (stF sts) sts.length ≠ 0 then firstE (stF sts) sts.length else
      if ¬ (inSt sts.length st ∧ inSt sts.length er) then 4 else if st = er then 1 else firstE (mvF sts.length er mvs) mvs.length) := by show _ = _; rw [HR.out]; unfold ptcE; rw [if_neg (by rw [hid]; simp)]
  clear HR
  by_cases hl1 : 16 < sts.length
  · have HB : Hid (r = 3) := by show _ = _; rw [HP1.out, if_pos (Or.inl hl1)]
    go_wp2_with fail
    go_ret
    exact ⟨by rw [HB.out]; rfl, hbw1⟩
  by_cases hl2 : 256 < mvs.length
  · have HB : Hid (r = 3) := by show _ = _; rw [HP1.out, if_pos (Or.inr hl2)]
    go_wp2_with fail
    go_ret
    exact ⟨by rw [HB.out]; rfl, hbw1⟩
  by_cases hz : sts.length = 0
  · have HB : Hid (r = 4) := by show _ = _; rw [HP1.out, if_neg (by omega), if_pos hz]
    have t0 : ((sts.length : Int) == 0) = true := by rw [hz]; rfl
    clear hz
    go_wp2_with fail
    go_ret
    exact ⟨by rw [HB.out]; rfl, hbw1⟩
  have t0 : ((sts.length : Int) == 0) = false := beq_eq_false_iff_ne.2 (by omega)
  have HP2 : Hid (r = if firstE (stF sts) sts.length ≠ 0 then firstE (stF sts) sts.length else
      if ¬ (inSt sts.length st ∧ inSt sts.length er) then 4 else if st = er then 1 else firstE (mvF sts.length er mvs) mvs.length) := by show _ = _; rw [HP1.out, if_neg (by omega), if_neg hz]
  clear HP1 hz
  go_wp2_with fail
  clear p1 p4 pl
  go_loopw [3] (fun i wr => ∃ k : Nat, k ≤ sts.length ∧ i = .int .i64 k ∧ Hid (firstE (stF sts) k = 0) ∧ Box wr w.heap.size [.string cl, .slice A1 sts.length c1, .int .i64 st, .int .i64 er, .slice A4 mvs.length c4] 63 ∧ Below w.heap.size w wr) (fun i _ => sts.length - (intOf i).toNat)
  case atStart => exact ⟨0, Nat.zero_le _, rfl, Lib.hid rfl, bx1, hbw1⟩
  case round =>
    clear bx1 hbw1
    obtain ⟨k, hk, rfl, HN, hbx, hbw⟩ := hrel
    have p0 := hbx.cell 0 rfl
    have p1 := hbx.cell 1 rfl
    have p2 := hbx.cell 2 rfl
    have p3 := hbx.cell 3 rfl
    have p4 := hbx.cell 4 rfl
    have pl := hbx.lt
    by_cases hlt : k < sts.length
    · have HF := Lib.hid (stF_at hlt)
      have HHIT : Hid (stF sts k ≠ 0 → r = stF sts k) := fun h => by
        have e := firstE_hit HN.out h hlt
        rw [HP2.out, if_pos (by rw [e]; exact h), e]
      obtain ⟨b, o, rfl, hb, d0⟩ := (hs1.mono hbw).str_at hlt
      have hsz := ok3.out _ (List.getElem_mem hlt)
      go_wp2_with fail
      refine (refIdent_any sts[k] _ hsz).mono ?_
      rintro e w2 ⟨rfl, hb2⟩
      have hbx2 := hbx.mono hb2
      have hbw2 := below_step hbw hb2
      cases hid2 : identB sts[k] with
      | false =>
        have HB : Hid (r = 5) := by
          have e : stF sts k = 5 := by rw [HF.out, if_pos hid2]
          show _ = _
          rw [HHIT.out (by rw [e]; omega), e]
        go_wp2_with fail
        go_ret
        exact ⟨by rw [HB.out]; rfl, hbw2⟩
      | true =>
        clear p0 p1 p2 p3 p4 pl d0
        obtain ⟨b', o', eA, hb', d0⟩ := (hs1.mono hbw2).str_at hlt
        injection eA with eA
        injection eA with z1 z2
        subst z1 z2
        have p1 := hbx2.cell 1 rfl
        have pl := hbx2.lt
        have htl : (sts.take k).length = k := by rw [List.length_take]; omega
        have HA : Hid (∀ x : Later w2, Calls Tryz.prog 79 #[.slice (some ⟨b, o, none⟩) k c1, .string sts[k]] x.W fun e w' => e = .returned (.int .i64 (atI (sts.take k) sts[k])) ∧ x.W = w') := fun x => by
          have := refAt_any (some ⟨b, o, none⟩) c1 (sts.take k) sts[k] x.W (by rw [htl]; omega) (((hs1.mono hbw2).takeS k).later x)
          rw [htl] at this
          exact this
        clear htl
        by_cases hc : 0 ≤ atI (sts.take k) sts[k]
        · have HB : Hid (r = 7) := by
            have e : stF sts k = 7 := by rw [HF.out, if_neg (by rw [hid2]; simp), if_pos hc]
            show _ = _
            rw [HHIT.out (by rw [e]; omega), e]
          generalize atI (sts.take k) sts[k] = ai at *
          go_wp2_with fail
          refine wp_region_later (by kernel_rfl) (by kernel_rfl) ?_
          repeat (go_big_quiet_step (first | (go_at_call 79; exact Calls.later_same (HA.out _))))
          refine wpQuiet_nil ?_
          rintro _ ⟨x, rfl⟩
          go_wp2_with fail
          go_ret
          exact ⟨by rw [HB.out]; rfl, below_step hbw2 x.h⟩
        · have HE : Hid (firstE (stF sts) (k + 1) = 0) := firstE_pass HN.out (by rw [HF.out, if_neg (by rw [hid2]; simp), if_neg hc])
          generalize atI (sts.take k) sts[k] = ai at *
          go_wp2_with fail
          refine wp_region_later (by kernel_rfl) (by kernel_rfl) ?_
          repeat (go_big_quiet_step (first | (go_at_call 79; exact Calls.later_same (HA.out _))))
          refine wpQuiet_nil ?_
          rintro _ ⟨x, rfl⟩
          go_wp2_with fail
          go_roundw
          case rel => exact ⟨k + 1, by omega, by go_num, HE, hbx2.mono x.h, below_step hbw2 x.h⟩
          case measure => simp [intOf]; omega
    · obtain rfl : k = sts.length := by omega
      have HP3 : Hid (r = if ¬ (inSt sts.length st ∧ inSt sts.length er) then 4 else if st = er then 1 else firstE (mvF sts.length er mvs) mvs.length) := by show _ = _; rw [HP2.out, if_neg (by rw [HN.out]; simp)]
      clear HP2 HN hlt hk
      by_cases i1 : inSt sts.length st ∧ inSt sts.length er
      case neg =>
        have HB : Hid (r = 4) := by show _ = _; rw [HP3.out, if_pos i1]
        unfold inSt at i1
        go_wp2_with fail
        all_goals (go_ret; exact ⟨by rw [HB.out]; rfl, hbw⟩)
      by_cases hse : st = er
      · have HB : Hid (r = 1) := by show _ = _; rw [HP3.out, if_neg (fun h => h i1), if_pos hse]
        have te : (st == er) = true := by simpa using hse
        obtain ⟨⟨a0, a1⟩, ⟨a2, a3⟩⟩ := i1
        clear hse
        go_wp2_with fail
        go_ret
        exact ⟨by rw [HB.out]; rfl, hbw⟩
      have te : (st == er) = false := by simpa using hse
      have HP4 : Hid (r = firstE (mvF sts.length er mvs) mvs.length) := by show _ = _; rw [HP3.out, if_neg (fun h => h i1), if_neg hse]
      obtain ⟨⟨a0, a1⟩, ⟨a2, a3⟩⟩ := i1
      clear HP3 hse
      go_wp2_with fail
      refine (refMoves_any cl A1 A4 sts.length c1 c4 st er mvs _ (by omega) (by omega) ok5 (hs4.mono hbw)).mono ?_
      rintro e w2 ⟨rfl, hb2⟩
      rw [← HP4.out]
      go_wp2_with fail
      go_ret
      exact ⟨rfl, below_step hbw hb2⟩
end Go.Proofs.YthabojhnliomnaaGreatDoor
