/-
  Chapter 39: the program's check of a protocol.
-/
import Derived.Test.YthabojhnliomnaaGreatDoorPolL
import Derived.Test.YthabojhnliomnaaGreatDoorPolD
namespace Go.Proofs.YthabojhnliomnaaGreatDoor
open Go.RowKit
set_option linter.unusedVariables false

def OkPtc (p : Ptc) : Prop := p.cls.size ≤ 9223372036854775807 ∧ p.states.length ≤ 9223372036854775807 ∧ OkStrs p.states ∧ p.moves.length ≤ 9223372036854775807 ∧ OkMovs p.moves
theorem atI_iff {l : List ByteArray} {s : ByteArray} : 0 ≤ atI l s ↔ s ∈ l := by
  unfold atI
  cases h : l.findIdx? (fun x => x.toList == s.toList) with
  | none =>
    rw [List.findIdx?_eq_none_iff] at h
    constructor
    · intro h0; simp at h0
    · intro hm; have := h s hm; simp at this
  | some i =>
    obtain ⟨hi, h1, _⟩ := List.findIdx?_eq_some_iff_getElem.1 h
    constructor
    · intro _
      have : l[i].toList = s.toList := by simpa using h1
      rw [ByteArray.toList_eq, ByteArray.toList_eq] at this
      rw [← toL_inj this]
      exact List.getElem_mem hi
    · intro _; simp
theorem contTake {w : World} {b o k c : Nat} {l : List ByteArray} (x : ByteArray) (hk : k ≤ l.length) (hb : k ≤ 9223372036854775807) (hs : Sl Lay.str w (some ⟨b, o, none⟩) l) :
    Calls Tryz.prog 74 #[.slice (some ⟨b, o, none⟩) k c, .string x] w fun e w' => e = .returned (.bool (decide (0 ≤ atI (l.take k) x))) ∧ w = w' := by
  refine (Tryz.slices_Contains_string b o k c l x w hk hb (fun j hj => ?_)).mono ?_
  · obtain ⟨b', o', e, _, hc⟩ := hs.str_at hj
    injection e with e
    injection e with e1 e2
    subst e1 e2
    rw [hc]
    simp [List.getD, hj]
  · rintro e w' ⟨rfl, rfl⟩
    refine ⟨?_, rfl⟩
    congr 2
    rw [Bool.eq_iff_iff, decide_eq_true_iff, Lib.containsS_iff, atI_iff]
theorem isStateB {cl : ByteArray} {A1 A4 : Option Addr} {n1 c1 n4 c4 : Nat} {st er q : Int} {w : World} {b : Bool} (hn : n1 ≤ 9223372036854775807) (hb : Hid (b = decide (inSt n1 q))) :
    Calls Tryz.prog 75 #[.agg #[.string cl, .slice A1 n1 c1, .int .i64 st, .int .i64 er, .slice A4 n4 c4], .int .i64 q] w fun e w' => e = .returned (.bool b) ∧ Below w.heap.size w w' := by
  refine (isState_any q cl A1 A4 n1 c1 n4 c4 st er w hn).mono ?_
  rintro e w' ⟨rfl, hw⟩
  refine ⟨?_, hw⟩
  rw [hb.out]
  congr 2
  rw [Bool.eq_iff_iff, decide_eq_true_iff]
  unfold inSt
  simp
set_option maxRecDepth 100000 in
set_option maxHeartbeats 4000000 in
theorem ptcCheck_any (p : Ptc) (A1 A4 : Option Addr) (c1 c4 : Nat) (w : World) (hok : Hid (OkPtc p)) (hkw : KwX w) (hc1 : p.states.length ≤ c1) (hs1 : Sl Lay.str w A1 p.states) (hs4 : Sl Lay.mov w A4 p.moves) :
    Calls Tryz.prog 29 #[.agg #[.string p.cls, .slice A1 p.states.length c1, .int .i64 p.start, .int .i64 p.err, .slice A4 p.moves.length c4]] w fun e w' => e = .returned (.int .i64 (ptcE p)) ∧ Below w.heap.size w w' := by
  obtain ⟨r, HR⟩ : ∃ r, Hid (r = ptcE p) := ⟨_, Lib.hid rfl⟩
  rw [← HR.out]
  obtain ⟨cl, sts, st, er, mvs⟩ := p
  obtain ⟨ok1, ok2, ok3, ok4, ok5⟩ := hok.out
  replace ok3 := Lib.hid ok3
  replace ok5 := Lib.hid ok5
  have bx0 := Box.new w [.string cl, .slice A1 sts.length c1, .int .i64 st, .int .i64 er, .slice A4 mvs.length c4] 63
  have hb0 : Below w.heap.size w (w.alloc (.cells #[.string cl, .slice A1 sts.length c1, .int .i64 st, .int .i64 er, .slice A4 mvs.length c4] 63)) := (by repeat (first | assumption | exact Below.refl _ _ | apply bw_alloc | apply bw_drew | apply bw_drewN | apply bw_later | apply bw_step))
  simp only at ok1 ok2 ok4 hs1 hs4 hc1 ⊢
  go_enter Tryz.func29, Tryz.ntmps29
  go_upto_region 1 with fail
  generalize hW : World.alloc _ _ = W1 at *
  clear hW
  have p0 := bx0.cell 0 rfl
  have p1 := bx0.cell 1 rfl
  have p2 := bx0.cell 2 rfl
  have p3 := bx0.cell 3 rfl
  have p4 := bx0.cell 4 rfl
  have pl := bx0.lt
  have hkw1 := hkw.mono hb0
  have hs1' := hs1.mono hb0
  go_wp2_with fail
  refine (ident_any cl _ ok1 hkw1).mono ?_
  rintro e w1 ⟨rfl, rfl⟩
  cases hid : identB cl with
  | false =>
    have HB : Hid (r = 5) := by show _ = _; rw [HR.out]; unfold ptcE; rw [if_pos hid]
    go_wp2_with fail
    go_ret
    exact ⟨by rw [HB.out]; rfl, hb0⟩
  | true =>
  have HP1 : Hid (r = if 16 < sts.length ∨ 256 < mvs.length then 3 else if sts.length = 0 then 4 else
      if firstE (stF sts) sts.length ≠ 0 then firstE (stF sts) sts.length else
      if ¬ (inSt sts.length st ∧ inSt sts.length er) then 4 else if st = er then 1 else firstE (mvF sts.length er mvs) mvs.length) := by show _ = _; rw [HR.out]; unfold ptcE; rw [if_neg (by rw [hid]; simp)]
  clear HR
  by_cases hl1 : 16 < sts.length
  · have HB : Hid (r = 3) := by show _ = _; rw [HP1.out, if_pos (Or.inl hl1)]
    go_wp2_with fail
    go_ret
    exact ⟨by rw [HB.out]; rfl, hb0⟩
  by_cases hl2 : 256 < mvs.length
  · have HB : Hid (r = 3) := by show _ = _; rw [HP1.out, if_pos (Or.inr hl2)]
    go_wp2_with fail
    go_ret
    exact ⟨by rw [HB.out]; rfl, hb0⟩
  by_cases hz : sts.length = 0
  · have HB : Hid (r = 4) := by show _ = _; rw [HP1.out, if_neg (by omega), if_pos hz]
    have t0 : ((sts.length : Int) == 0) = true := by rw [hz]; rfl
    clear hz
    go_wp2_with fail
    go_ret
    exact ⟨by rw [HB.out]; rfl, hb0⟩
  have t0 : ((sts.length : Int) == 0) = false := beq_eq_false_iff_ne.2 (by omega)
  have HP2 : Hid (r = if firstE (stF sts) sts.length ≠ 0 then firstE (stF sts) sts.length else
      if ¬ (inSt sts.length st ∧ inSt sts.length er) then 4 else if st = er then 1 else firstE (mvF sts.length er mvs) mvs.length) := by show _ = _; rw [HP1.out, if_neg (by omega), if_neg hz]
  clear HP1 hz
  go_wp2_with fail
  go_loop [28] (fun i => ∃ k : Nat, k ≤ sts.length ∧ i = .int .i64 k ∧ Hid (firstE (stF sts) k = 0)) (fun i => sts.length - (intOf i).toNat)
  case atStart => exact ⟨0, Nat.zero_le _, rfl, Lib.hid rfl⟩
  case round =>
    obtain ⟨k, hk, rfl, HN⟩ := hrel
    by_cases hlt : k < sts.length
    · have HF := Lib.hid (stF_at hlt)
      have HHIT : Hid (stF sts k ≠ 0 → r = stF sts k) := fun h => by
        have e := firstE_hit HN.out h hlt
        rw [HP2.out, if_pos (by rw [e]; exact h), e]
      obtain ⟨b, o, rfl, hb, d0⟩ := hs1'.str_at hlt
      have hsz := ok3.out _ (List.getElem_mem hlt)
      go_wp2_with fail
      refine (ident_any sts[k] _ hsz hkw1).mono ?_
      rintro e w1 ⟨rfl, rfl⟩
      cases hid2 : identB sts[k] with
      | false =>
        have HB : Hid (r = 5) := by
          have e : stF sts k = 5 := by rw [HF.out, if_pos hid2]
          show _ = _
          rw [HHIT.out (by rw [e]; omega), e]
        go_wp2_with fail
        go_ret
        exact ⟨by rw [HB.out]; rfl, hb0⟩
      | true =>
        go_wp2_with fail
        refine (contTake sts[k] hk (by omega) hs1').mono ?_
        rintro e w1 ⟨rfl, rfl⟩
        by_cases hc : 0 ≤ atI (sts.take k) sts[k]
        · have HB : Hid (r = 7) := by
            have e : stF sts k = 7 := by rw [HF.out, if_neg (by rw [hid2]; simp), if_pos hc]
            show _ = _
            rw [HHIT.out (by rw [e]; omega), e]
          rw [decide_eq_true hc]
          clear hc
          go_wp2_with fail
          go_ret
          exact ⟨by rw [HB.out]; rfl, hb0⟩
        · have HE : Hid (firstE (stF sts) (k + 1) = 0) := firstE_pass HN.out (by rw [HF.out, if_neg (by rw [hid2]; simp), if_neg hc])
          rw [decide_eq_false hc]
          clear hc
          go_wp2_with fail
          go_round
          case rel => exact ⟨k + 1, by omega, by go_num, HE⟩
          case measure => simp [intOf]; omega
    · obtain rfl : k = sts.length := by omega
      have HP3 : Hid (r = if ¬ (inSt sts.length st ∧ inSt sts.length er) then 4 else if st = er then 1 else firstE (mvF sts.length er mvs) mvs.length) := by show _ = _; rw [HP2.out, if_neg (by rw [HN.out]; simp)]
      clear HP2 HN hlt hk
      have HI : ∀ (q : Int) (W : World), Calls Tryz.prog 75 #[.agg #[.string cl, .slice A1 sts.length c1, .int .i64 st, .int .i64 er, .slice A4 mvs.length c4], .int .i64 q] W fun e w' => e = .returned (.bool (decide (inSt sts.length q))) ∧ Below W.heap.size W w' := fun q W => isStateB ok2 (Lib.hid rfl)
      replace HI := Lib.hid HI
      go_wp2_with fail
      refine (HI.out st _).mono ?_
      rintro e w2 ⟨rfl, hb2⟩
      have bx2 := bx0.mono hb2
      have hbw2 := below_step hb0 hb2
      clear p0 p1 p2 p3 p4 pl
      have p0 := bx2.cell 0 rfl
      have p1 := bx2.cell 1 rfl
      have p2 := bx2.cell 2 rfl
      have p3 := bx2.cell 3 rfl
      have p4 := bx2.cell 4 rfl
      have pl := bx2.lt
      by_cases i1 : inSt sts.length st
      case neg =>
        have HB : Hid (r = 4) := by show _ = _; rw [HP3.out, if_pos (fun h => i1 h.1)]
        rw [decide_eq_false i1]
        clear i1
        go_wp2_with fail
        go_ret
        exact ⟨by rw [HB.out]; rfl, hbw2⟩
      rw [decide_eq_true i1]
      go_wp2_with fail
      refine (HI.out er _).mono ?_
      rintro e w3 ⟨rfl, hb3⟩
      have bx3 := bx2.mono hb3
      have hbw3 := below_step hbw2 hb3
      clear p0 p1 p2 p3 p4 pl
      have p0 := bx3.cell 0 rfl
      have p1 := bx3.cell 1 rfl
      have p2 := bx3.cell 2 rfl
      have p3 := bx3.cell 3 rfl
      have p4 := bx3.cell 4 rfl
      have pl := bx3.lt
      by_cases i2 : inSt sts.length er
      case neg =>
        have HB : Hid (r = 4) := by show _ = _; rw [HP3.out, if_pos (fun h => i2 h.2)]
        rw [decide_eq_false i2]
        clear i2
        go_wp2_with fail
        go_ret
        exact ⟨by rw [HB.out]; rfl, hbw3⟩
      rw [decide_eq_true i2]
      by_cases hse : st = er
      · have HB : Hid (r = 1) := by show _ = _; rw [HP3.out, if_neg (fun h => h ⟨i1, i2⟩), if_pos hse]
        have te : (st == er) = true := by simpa using hse
        clear hse i1 i2
        go_wp2_with fail
        go_ret
        exact ⟨by rw [HB.out]; rfl, hbw3⟩
      have te : (st == er) = false := by simpa using hse
      have HP4 : Hid (r = firstE (mvF sts.length er mvs) mvs.length) := by show _ = _; rw [HP3.out, if_neg (fun h => h ⟨i1, i2⟩), if_neg hse]
      clear HP3 hse i1 i2
      go_wp2_with fail
      clear p0 p1 p2 p3 p4 pl
      go_loopw [63] (fun i wr => ∃ k : Nat, k ≤ mvs.length ∧ i = .int .i64 k ∧ Hid (firstE (mvF sts.length er mvs) k = 0) ∧ Box wr w.heap.size [.string cl, .slice A1 sts.length c1, .int .i64 st, .int .i64 er, .slice A4 mvs.length c4] 63 ∧ Below w.heap.size w wr) (fun i _ => mvs.length - (intOf i).toNat)
      case atStart => exact ⟨0, Nat.zero_le _, rfl, Lib.hid rfl, bx3, hbw3⟩
      case round =>
        clear bx2 bx3 hbw2 hbw3 hb2 hb3
        obtain ⟨k, hk, rfl, HN, hbx, hbw⟩ := hrel
        by_cases hlt : k < mvs.length
        · have HF := Lib.hid (mvF_at (n := sts.length) (er := er) hlt)
          have HHIT : Hid (mvF sts.length er mvs k ≠ 0 → r = mvF sts.length er mvs k) := fun h => by rw [HP4.out, firstE_hit HN.out h hlt]
          obtain ⟨b, o, rfl, hb, d0, d1, d2⟩ := (hs4.mono hbw).mov_at hlt
          have hsz := ok5.out _ (List.getElem_mem hlt)
          have bm := Box.new wr [.int .i64 mvs[k].src, .string mvs[k].mth, .int .i64 mvs[k].dst] 103
          have hbxa := hbx.alloc (.cells #[.int .i64 mvs[k].src, .string mvs[k].mth, .int .i64 mvs[k].dst] 103)
          have hbwa : Below w.heap.size w (wr.alloc (.cells #[.int .i64 mvs[k].src, .string mvs[k].mth, .int .i64 mvs[k].dst] 103)) := bw_alloc hbw
          go_upto_region 22 with fail
          generalize hW : World.alloc wr _ = W2 at *
          clear hW d0 d1 d2
          have q0 := hbxa.cell 0 rfl
          have q1 := hbxa.cell 1 rfl
          have q2 := hbxa.cell 2 rfl
          have q3 := hbxa.cell 3 rfl
          have q4 := hbxa.cell 4 rfl
          have ql := hbxa.lt
          have m0 := bm.cell 0 rfl
          have m1 := bm.cell 1 rfl
          have m2 := bm.cell 2 rfl
          have ml := bm.lt
          go_wp2_with fail
          refine (HI.out mvs[k].src _).mono ?_
          rintro e w4 ⟨rfl, hb4⟩
          have hbx4 := hbxa.mono hb4
          have bm4 := bm.mono hb4
          have hbw4 := below_step hbwa hb4
          clear q0 q1 q2 q3 q4 ql m0 m1 m2 ml
          have q0 := hbx4.cell 0 rfl
          have q1 := hbx4.cell 1 rfl
          have q2 := hbx4.cell 2 rfl
          have q3 := hbx4.cell 3 rfl
          have q4 := hbx4.cell 4 rfl
          have ql := hbx4.lt
          have m0 := bm4.cell 0 rfl
          have m1 := bm4.cell 1 rfl
          have m2 := bm4.cell 2 rfl
          have ml := bm4.lt
          by_cases j1 : inSt sts.length mvs[k].src
          case neg =>
            have HB : Hid (r = 4) := by
              have e : mvF sts.length er mvs k = 4 := by rw [HF.out, if_pos (fun h => j1 h.1)]
              show _ = _
              rw [HHIT.out (by rw [e]; omega), e]
            rw [decide_eq_false j1]
            clear j1
            go_wp2_with fail
            go_ret
            exact ⟨by rw [HB.out]; rfl, hbw4⟩
          rw [decide_eq_true j1]
          go_wp2_with fail
          refine (HI.out mvs[k].dst _).mono ?_
          rintro e w5 ⟨rfl, hb5⟩
          have hbx5 := hbx4.mono hb5
          have bm5 := bm4.mono hb5
          have hbw5 := below_step hbw4 hb5
          clear q0 q1 q2 q3 q4 ql m0 m1 m2 ml
          have q3 := hbx5.cell 3 rfl
          have q4 := hbx5.cell 4 rfl
          have ql := hbx5.lt
          have m0 := bm5.cell 0 rfl
          have m1 := bm5.cell 1 rfl
          have m2 := bm5.cell 2 rfl
          have ml := bm5.lt
          by_cases j2 : inSt sts.length mvs[k].dst
          case neg =>
            have HB : Hid (r = 4) := by
              have e : mvF sts.length er mvs k = 4 := by rw [HF.out, if_pos (fun h => j2 h.2)]
              show _ = _
              rw [HHIT.out (by rw [e]; omega), e]
            rw [decide_eq_false j2]
            clear j2
            go_wp2_with fail
            go_ret
            exact ⟨by rw [HB.out]; rfl, hbw5⟩
          rw [decide_eq_true j2]
          have HF2 : Hid (mvF sts.length er mvs k = if identB mvs[k].mth = false then 5 else if mvs[k].src = er then 22 else if 0 < k ∧ 0 ≤ cmpM (mvs[k - 1]'(by omega)) mvs[k] then 13 else 0) := by show _ = _; rw [HF.out, if_neg (fun h => h ⟨j1, j2⟩)]
          clear HF j1 j2
          go_wp2_with fail
          refine (ident_any mvs[k].mth _ hsz (hkw.mono hbw5)).mono ?_
          rintro e w6 ⟨rfl, rfl⟩
          cases hid2 : identB mvs[k].mth with
          | false =>
            have HB : Hid (r = 5) := by
              have e : mvF sts.length er mvs k = 5 := by rw [HF2.out, if_pos hid2]
              show _ = _
              rw [HHIT.out (by rw [e]; omega), e]
            go_wp2_with fail
            go_ret
            exact ⟨by rw [HB.out]; rfl, hbw5⟩
          | true =>
          by_cases her : mvs[k].src = er
          · have HB : Hid (r = 22) := by
              have e : mvF sts.length er mvs k = 22 := by rw [HF2.out, if_neg (by rw [hid2]; simp), if_pos her]
              show _ = _
              rw [HHIT.out (by rw [e]; omega), e]
            have te2 : (mvs[k].src == er) = true := by simpa using her
            clear her
            go_wp2_with fail
            go_ret
            exact ⟨by rw [HB.out]; rfl, hbw5⟩
          have HF3 : Hid (mvF sts.length er mvs k = if 0 < k ∧ 0 ≤ cmpM (mvs[k - 1]'(by omega)) mvs[k] then 13 else 0) := by show _ = _; rw [HF2.out, if_neg (by rw [hid2]; simp), if_neg her]
          have te2 : (mvs[k].src == er) = false := by simpa using her
          clear her HF2
          by_cases hk0 : k = 0
          · subst hk0
            have HP : Hid (firstE (mvF sts.length er mvs) (0 + 1) = 0) := firstE_pass HN.out (by rw [HF3.out, if_neg (by omega)])
            go_wp2_with fail
            refine wp_region_later (by kernel_rfl) (by kernel_rfl) ?_
            repeat (go_big_quiet_step (fail))
            refine wpQuiet_nil ?_
            rintro _ ⟨x, rfl⟩
            go_wp2_with fail
            go_roundw
            case rel => exact ⟨1, by omega, by go_num, HP, hbx5.mono x.h, below_step hbw5 x.h⟩
            case measure => simp [intOf]; omega
          · obtain ⟨m, rfl⟩ : ∃ m, k = m + 1 := ⟨k - 1, by omega⟩
            obtain ⟨b', o', eA, hb', e0, e1, e2⟩ := (hs4.mono hbw5).mov_at (i := m) (by omega)
            injection eA with eA
            injection eA with z1 z2
            subst z1 z2
            have t3 : (((m + 1 : Nat) : Int) - 1) = (m : Int) := by omega
            have HC : Hid (∀ W, Calls Tryz.prog 76 #[.agg #[.int .i64 mvs[m].src, .string mvs[m].mth, .int .i64 mvs[m].dst], .agg #[.int .i64 mvs[m + 1].src, .string mvs[m + 1].mth, .int .i64 mvs[m + 1].dst]] W fun e w' => e = .returned (.int .i64 (cmpM mvs[m] mvs[m + 1])) ∧ Below W.heap.size W w') := fun W => ptcCompare_any _ _ W
            have HF4 : Hid (mvF sts.length er mvs (m + 1) = if 0 ≤ cmpM mvs[m] mvs[m + 1] then 13 else 0) := by
              show _ = _
              rw [HF3.out]
              by_cases h : 0 ≤ cmpM mvs[m] mvs[m + 1]
              · rw [if_pos h, if_pos ⟨by omega, h⟩]
              · rw [if_neg h, if_neg (fun h2 => h h2.2)]
            clear HF3 hk0
            generalize cmpM mvs[m] mvs[m + 1] = cm at *
            by_cases hcm : 0 ≤ cm
            · have HB : Hid (r = 13) := by
                have e : mvF sts.length er mvs (m + 1) = 13 := by rw [HF4.out, if_pos hcm]
                show _ = _
                rw [HHIT.out (by rw [e]; omega), e]
              go_wp2_with fail
              refine wp_region_later (by kernel_rfl) (by kernel_rfl) ?_
              repeat (go_big_quiet_step (first | (go_at_call 76; exact Calls.later (HC.out _))))
              refine wpQuiet_nil ?_
              rintro _ ⟨x, rfl⟩
              go_wp2_with fail
              go_ret
              exact ⟨by rw [HB.out]; rfl, below_step hbw5 x.h⟩
            · have HP : Hid (firstE (mvF sts.length er mvs) (m + 1 + 1) = 0) := firstE_pass HN.out (by rw [HF4.out, if_neg hcm])
              go_wp2_with fail
              refine wp_region_later (by kernel_rfl) (by kernel_rfl) ?_
              repeat (go_big_quiet_step (first | (go_at_call 76; exact Calls.later (HC.out _))))
              refine wpQuiet_nil ?_
              rintro _ ⟨x, rfl⟩
              go_wp2_with fail
              go_roundw
              case rel => exact ⟨m + 1 + 1, by omega, by go_num, HP, hbx5.mono x.h, below_step hbw5 x.h⟩
              case measure => simp [intOf]; omega
        · obtain rfl : k = mvs.length := by omega
          have HB : Hid (r = 0) := by show _ = _; rw [HP4.out]; exact HN.out
          go_wp2_with fail
          go_ret
          exact ⟨by rw [HB.out]; rfl, hbw⟩
end Go.Proofs.YthabojhnliomnaaGreatDoor
