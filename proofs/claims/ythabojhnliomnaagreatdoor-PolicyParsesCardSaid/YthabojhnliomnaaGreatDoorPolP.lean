/-
  Chapter 42: the checks of a policy, both sides.
-/
import Derived.Test.YthabojhnliomnaaGreatDoorPolM
import Derived.Test.YthabojhnliomnaaGreatDoorPolO
namespace Go.Proofs.YthabojhnliomnaaGreatDoor
open Go.RowKit
set_option linter.unusedVariables false

structure OkPol (p : Pol) : Prop where
  rl : p.rules.length ≤ 9223372036854775807
  pl : p.protocols.length ≤ 9223372036854775807
  r : ∀ x ∈ p.rules, OkRul x
  p : ∀ x ∈ p.protocols, OkPtc x
def Pol2 (r : Int × Int) : Value := .tuple #[.int .i64 r.1, .int .i64 r.2]
set_option maxRecDepth 100000 in
set_option maxHeartbeats 4000000 in
theorem polCheck_any (p : Pol) (A A2 : Option Addr) (c c2 : Nat) (w : World) (hok : Hid (OkPol p)) (hkw : KwX w) (hc2 : p.protocols.length ≤ c2) (hs : Sl Lay.rul w A p.rules) (hs2 : Sl Lay.ptc w A2 p.protocols) :
    Calls Tryz.prog 10 #[.agg #[.slice A p.rules.length c, .slice A2 p.protocols.length c2]] w fun e w' => e = .returned (.tuple #[.int .i64 (polE p).1, .int .i64 (polE p).2]) ∧ Below w.heap.size w w' := by
  obtain ⟨r, HR⟩ : ∃ r, Hid (r = polE p) := ⟨_, Lib.hid rfl⟩
  rw [← HR.out]
  have HRET : Hid (∀ a b : Int, r = (a, b) → (Ending.returned (.tuple #[.int .i64 a, .int .i64 b]) = Ending.returned (.tuple #[.int .i64 r.1, .int .i64 r.2]))) := fun a b h => by rw [h]
  have okr := Lib.hid hok.out.r
  have okp := Lib.hid hok.out.p
  have okl := hok.out.rl
  have okm := hok.out.pl
  obtain ⟨rs, ps⟩ := p
  simp only at okl okm hs hs2 hc2 ⊢
  have bx0 := Box.new w [.slice A rs.length c, .slice A2 ps.length c2] 25
  have hb0 : Below w.heap.size w (w.alloc (.cells #[.slice A rs.length c, .slice A2 ps.length c2] 25)) := (by repeat (first | assumption | exact Below.refl _ _ | apply bw_alloc | apply bw_drew | apply bw_drewN | apply bw_later | apply bw_step))
  go_enter Tryz.func10, Tryz.ntmps10
  by_cases hl1 : 64 < rs.length
  · have HB : Hid (r = (-1, 3)) := by show _ = _; rw [HR.out]; exact polE_long (Or.inl hl1)
    go_wp2_with fail
    go_ret2
    exact ⟨HRET.out _ _ HB.out, hb0⟩
  by_cases hl2 : 64 < ps.length
  · have HB : Hid (r = (-1, 3)) := by show _ = _; rw [HR.out]; exact polE_long (Or.inr hl2)
    go_wp2_with fail
    go_ret2
    exact ⟨HRET.out _ _ HB.out, hb0⟩
  have HL : Hid (¬ (64 < rs.length ∨ 64 < ps.length)) := fun h => by omega
  go_wp2_with fail
  go_loopw [25] (fun i wr => ∃ k : Nat, k ≤ rs.length ∧ i = .int .i64 k ∧ Hid (firstE (rlF rs) k = 0) ∧ Box wr w.heap.size [.slice A rs.length c, .slice A2 ps.length c2] 25 ∧ Below w.heap.size w wr) (fun i _ => rs.length - (intOf i).toNat)
  case atStart => exact ⟨0, Nat.zero_le _, rfl, Lib.hid rfl, bx0, hb0⟩
  case round =>
    clear bx0 hb0
    obtain ⟨k, hk, rfl, HN, hbx, hbw⟩ := hrel
    by_cases hlt : k < rs.length
    · obtain ⟨b, o, A5, c5, rfl, hb, d0, d1, d2, d3, d4, d5, d6, d7, hc5, hs5⟩ := (hs.mono hbw).rul_at hlt
      have HC : Hid (∀ W, Below wr.heap.size wr W → Calls Tryz.prog 28 #[.agg #[.int .i64 rs[k].kind, .string rs[k].cls, .string rs[k].mth, .int .i64 rs[k].pth.root, .int .i64 rs[k].pth.n, .slice A5 rs[k].pth.fields.length c5, .bool rs[k].pth.star, .string rs[k].tag]] W fun e w' => e = .returned (.int .i64 (rulE rs[k])) ∧ Below W.heap.size W w') := fun W hW => checkRule_any rs[k] A5 c5 W (Lib.hid (okr.out _ (List.getElem_mem hlt))) (hkw.mono (below_step hbw hW)) (hs5.mono hW)
      have HF := Lib.hid (rlF_at hlt)
      go_wp2_with fail
      refine (HC.out _ (bw_alloc (Below.refl _ _))).mono ?_
      rintro e w2 ⟨rfl, hb2⟩
      have hbx2 := (hbx.alloc _).mono hb2
      have hbw2 := below_step (bw_alloc hbw) hb2
      by_cases hq : rulE rs[k] = 0
      · have HE : Hid (firstE (rlF rs) (k + 1) = 0) := firstE_pass HN.out (by rw [HF.out, hq])
        rw [hq]
        clear hq
        go_wp2_with fail
        go_roundw
        case rel => exact ⟨k + 1, by omega, by go_num, HE, hbx2, hbw2⟩
        case measure => simp [intOf]; omega
      · have HB : Hid (r = ((k : Int), rulE rs[k])) := by show _ = _; rw [HR.out]; exact polE_rule HL.out hlt HN.out hq
        have tq : (rulE rs[k] != 0) = true := by simpa using hq
        generalize rulE rs[k] = q at *
        clear hq
        go_wp2_with fail
        go_ret2
        exact ⟨HRET.out _ _ HB.out, hbw2⟩
    · obtain rfl : k = rs.length := by omega
      have HNR : Hid (firstE (rlF rs) rs.length = 0) := HN.out
      clear HN hlt hk
      have p1 := hbx.cell 1 rfl
      have pl := hbx.lt
      go_wp2_with fail
      clear p1 pl
      obtain ⟨wo, rfl⟩ : ∃ wo : World, wo = wr := ⟨_, rfl⟩
      go_loopw [40] (fun i wr => ∃ k : Nat, k ≤ ps.length ∧ i = .int .i64 k ∧ Hid (firstE (ptF ps) k = 0) ∧ Box wr w.heap.size [.slice A rs.length c, .slice A2 ps.length c2] 25 ∧ Below w.heap.size w wr) (fun i _ => ps.length - (intOf i).toNat)
      case atStart => exact ⟨0, Nat.zero_le _, rfl, Lib.hid rfl, hbx, hbw⟩
      case round =>
        clear hbx hbw
        obtain ⟨k, hk, rfl, HN, hbx, hbw⟩ := hrel
        by_cases hlt : k < ps.length
        · obtain ⟨b, o, A5, c5, A6, c6, rfl, hb, d0, d1, d2, d3, d4, hc5, hs5, hc6, hs6⟩ := (hs2.mono hbw).ptc_at hlt
          have HC : Hid (∀ W, Below wr.heap.size wr W → Calls Tryz.prog 29 #[.agg #[.string ps[k].cls, .slice A5 ps[k].states.length c5, .int .i64 ps[k].start, .int .i64 ps[k].err, .slice A6 ps[k].moves.length c6]] W fun e w' => e = .returned (.int .i64 (ptcE ps[k])) ∧ Below W.heap.size W w') := fun W hW => ptcCheck_any ps[k] A5 A6 c5 c6 W (Lib.hid (okp.out _ (List.getElem_mem hlt))) (hkw.mono (below_step hbw hW)) hc5 (hs5.mono hW) (hs6.mono hW)
          have HF := Lib.hid (ptF_at hlt)
          have HHIT : Hid (ptF ps k ≠ 0 → r = ((rs.length : Int) + k, ptF ps k)) := fun h => by rw [HR.out]; exact polE_ptc HL.out HNR.out hlt HN.out h
          have bq := Box.new wr [.string ps[k].cls, .slice A5 ps[k].states.length c5, .int .i64 ps[k].start, .int .i64 ps[k].err, .slice A6 ps[k].moves.length c6] 63
          go_wp2_with fail
          refine (HC.out _ (bw_alloc (Below.refl _ _))).mono ?_
          rintro e w2 ⟨rfl, hb2⟩
          have bq2 := bq.mono hb2
          have hbx2 := (hbx.alloc _).mono hb2
          have hbw2 := below_step (bw_alloc hbw) hb2
          have r0 := hbx2.cell 0 rfl
          have r1 := hbx2.cell 1 rfl
          have rl := hbx2.lt
          clear d0 d1 d2 d3 d4 HC bq
          by_cases hq : ptcE ps[k] = 0
          case neg =>
            have HB : Hid (r = ((rs.length : Int) + k, ptcE ps[k])) := by
              have e : ptF ps k = ptcE ps[k] := by rw [HF.out, if_pos hq]
              show _ = _
              rw [HHIT.out (by rw [e]; exact hq), e]
            have tq : (ptcE ps[k] != 0) = true := by simpa using hq
            generalize ptcE ps[k] = q at *
            clear hq
            go_wp2_with fail
            go_ret2
            exact ⟨HRET.out _ _ HB.out, hbw2⟩
          have HF2 : Hid (ptF ps k = if metB ps k ps[k].cls then 7 else 0) := by show _ = _; rw [HF.out, if_neg (by rw [hq]; simp)]
          rw [hq]
          clear hq HF
          go_wp2_with fail
          clear r0 r1 rl
          obtain ⟨wq, rfl⟩ : ∃ wq : World, wq = wr := ⟨_, rfl⟩
          have hqs : wq.heap.size < w2.heap.size := bq2.lt
          go_loopw [60] (fun i wr => ∃ j : Nat, j ≤ k ∧ i = .int .i64 j ∧ Hid (∀ j' (hl : j' < ps.length), j' < j → (ps[j'].cls.toList == ps[k].cls.toList) = false) ∧ Below w2.heap.size w2 wr) (fun i _ => k - (intOf i).toNat)
          case atStart => exact ⟨0, Nat.zero_le _, rfl, fun _ _ h => by omega, Below.refl _ _⟩
          case round =>
            obtain ⟨j, hj, rfl, HM, hbr⟩ := hrel
            have bq3 := bq2.mono hbr
            have hbx3 := hbx2.mono hbr
            have hbw3 := below_step hbw2 hbr
            by_cases hjk : j < k
            · obtain ⟨b', o', A7, c7, A8, c8, eA, hb', d0, d1, d2, d3, d4, hc7, hs7, hc8, hs8⟩ := (hs2.mono hbw3).ptc_at (i := j) (by omega)
              injection eA with eA
              injection eA with z1 z2
              subst z1 z2
              have bn := Box.new wr [.string ps[j].cls, .slice A7 ps[j].states.length c7, .int .i64 ps[j].start, .int .i64 ps[j].err, .slice A8 ps[j].moves.length c8] 63
              have bq4 := bq3.alloc (.cells #[.string ps[j].cls, .slice A7 ps[j].states.length c7, .int .i64 ps[j].start, .int .i64 ps[j].err, .slice A8 ps[j].moves.length c8] 63)
              have hbx4 := hbx3.alloc (.cells #[.string ps[j].cls, .slice A7 ps[j].states.length c7, .int .i64 ps[j].start, .int .i64 ps[j].err, .slice A8 ps[j].moves.length c8] 63)
              have hbr4 : Below w2.heap.size w2 (wr.alloc (.cells #[.string ps[j].cls, .slice A7 ps[j].states.length c7, .int .i64 ps[j].start, .int .i64 ps[j].err, .slice A8 ps[j].moves.length c8] 63)) := bw_alloc hbr
              have n1 := hbx3.cell 1 rfl
              have nl := hbx3.lt
              go_upto_region 19 with fail
              generalize hW : World.alloc wr _ = W4 at *
              clear hW d0 d1 d2 d3 d4 n1 nl
              have q0 := bq4.cell 0 rfl
              have ql := bq4.lt
              have m0 := bn.cell 0 rfl
              have ml := bn.lt
              have r0 := hbx4.cell 0 rfl
              have rl := hbx4.lt
              cases hcl : (ps[j].cls.toList == ps[k].cls.toList) with
              | true =>
                have HB : Hid (r = ((rs.length : Int) + k, 7)) := by
                  have e : ptF ps k = 7 := by rw [HF2.out, if_pos (metB_yes hjk (by omega) hcl)]
                  show _ = _
                  rw [HHIT.out (by rw [e]; omega), e]
                go_wp2_with fail
                go_ret2
                exact ⟨HRET.out _ _ HB.out, below_step hbw2 hbr4⟩
              | false =>
                have HM2 : Hid (∀ j' (hl : j' < ps.length), j' < j + 1 → (ps[j'].cls.toList == ps[k].cls.toList) = false) := fun j' hl h => by
                  by_cases e : j' = j
                  · subst e; exact hcl
                  · exact HM.out j' hl (by omega)
                go_wp2_with fail
                go_roundw
                case rel => exact ⟨j + 1, by omega, by go_num, HM2, hbr4⟩
                case measure => simp [intOf]; omega
            · obtain rfl : j = k := by omega
              have HE : Hid (firstE (ptF ps) (j + 1) = 0) := firstE_pass HN.out (by rw [HF2.out, metB_no HM.out]; simp)
              go_wp2_with fail
              go_roundw
              case rel => exact ⟨j + 1, by omega, by go_num, HE, hbx3, hbw3⟩
              case measure => simp [intOf]; omega
        · obtain rfl : k = ps.length := by omega
          have HB : Hid (r = (0, 0)) := by show _ = _; rw [HR.out]; exact polE_ok HL.out HNR.out HN.out
          go_wp2_with fail
          go_ret2
          exact ⟨HRET.out _ _ HB.out, hbw⟩
end Go.Proofs.YthabojhnliomnaaGreatDoor
