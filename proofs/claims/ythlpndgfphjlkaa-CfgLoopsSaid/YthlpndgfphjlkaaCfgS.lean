/-
  Chapter 14: the walk of the law CfgLoops.
-/
import Derived.Test.YthlpndgfphjlkaaMgCfg
import Derived.Deep.LoopGhost
namespace Go.Proofs.Ythlpndgfphjlkaa
open Go.RowKit
set_option linter.unusedVariables false

/-- A set that holds all that edges lead to from h and from its members. -/
structure CloE (E : List (Int × Int)) (h : Nat) (seen : List Bool) : Prop where
  cl : ∀ u v : Nat, ((u : Int), (v : Int)) ∈ E → (u = h ∨ seen[u]? = some true) → seen[v]? = some true
theorem CloE.head {E : List (Int × Int)} {h : Nat} {seen : List Bool} (k : CloE E h seen) (hh : IsHead E 0 h) : seen[h]? = some true := by
  obtain ⟨p, hp, hd⟩ := hh
  obtain ⟨_, h2, h3⟩ := (dmB_iff _ _ _ _).1 hd
  have key : ∀ p, RA E 0 none p → ¬ RA E 0 (some h) p → p = h ∨ seen[p]? = some true := by
    intro p hr
    induction hr with
    | root _ =>
      intro hn
      by_cases e : (0 : Nat) = h
      · exact Or.inl e
      · exact absurd (.root (fun e2 => e (by injection e2 with e2; exact e2.symm))) hn
    | @step q x hq hE _ ih =>
      intro hn
      by_cases hqa : RA E 0 (some h) q
      · by_cases e : x = h
        · exact Or.inl e
        · exact absurd (.step hqa hE (fun e2 => e (by injection e2 with e2; exact e2.symm))) hn
      · exact Or.inr (k.cl q x hE (ih hqa))
  exact k.cl p h hp (key p h2 h3)
set_option maxHeartbeats 1000000 in
theorem cfgLoops_no (x : Int) (hx : x ≠ 0) (c0 n0 : ByteArray) (s0 : Bool) (p0 : Int) (AV : Option Addr) (nV cV : Nat) (r0 : ByteArray) (AC : Option Addr) (cC : Nat) (code : List Ins) (w : World)
    (hg : ∀ W, Below w.heap.size w W → Calls Try.prog 6 #[.agg #[.string c0, .string n0, .bool s0, .int .i64 p0, .slice AV nV cV, .string r0, .slice AC code.length cC]] W fun e w' => e = noG x ∧ Below W.heap.size W w') :
    Calls Try.prog 4 #[.agg #[.string c0, .string n0, .bool s0, .int .i64 p0, .slice AV nV cV, .string r0, .slice AC code.length cC]] w fun e w' => e = .returned (.bool true) ∧ Below w.heap.size w w' := by
  have hb0 : Below w.heap.size w (w.alloc (.cells #[.string c0, .string n0, .bool s0, .int .i64 p0, .slice AV nV cV, .string r0, .slice AC code.length cC] 25)) := (by repeat (first | assumption | exact Below.refl _ _ | apply bw_alloc | apply bw_drew | apply bw_drewN | apply bw_later | apply bw_step))
  have tx : (x != 0) = true := by simpa using hx
  replace hg := Lib.hid hg
  unfold noG at hg
  go_enter Try.func4, Try.ntmps4
  go_wp2_with fail
  refine (hg.out _ hb0).mono ?_
  rintro e w1 ⟨rfl, hb1⟩
  have hbw := below_step hb0 hb1
  go_wp2_with fail
  refine (awake_any _).mono ?_
  rintro e w4 ⟨rfl, hb4⟩
  go_wp2_with fail
  go_ret
  exact ⟨rfl, below_step (bw_alloc hbw) hb4⟩
set_option maxHeartbeats 1000000 in
theorem cfgLoops_big (E : List (Int × Int)) (c0 n0 : ByteArray) (s0 : Bool) (p0 : Int) (AV : Option Addr) (nV cV : Nat) (r0 : ByteArray) (AC : Option Addr) (cC : Nat) (code : List Ins) (w : World) (hcl : ¬ code.length ≤ 120) (hm : code.length ≤ 1024)
    (hg : ∀ W, Below w.heap.size w W → Calls Try.prog 6 #[.agg #[.string c0, .string n0, .bool s0, .int .i64 p0, .slice AV nV cV, .string r0, .slice AC code.length cC]] W fun e w' => RetG w' ((code.length : Int) + 2) E e ∧ Below W.heap.size W w') :
    Calls Try.prog 4 #[.agg #[.string c0, .string n0, .bool s0, .int .i64 p0, .slice AV nV cV, .string r0, .slice AC code.length cC]] w fun e w' => e = .returned (.bool true) ∧ Below w.heap.size w w' := by
  have hb0 : Below w.heap.size w (w.alloc (.cells #[.string c0, .string n0, .bool s0, .int .i64 p0, .slice AV nV cV, .string r0, .slice AC code.length cC] 25)) := (by repeat (first | assumption | exact Below.refl _ _ | apply bw_alloc | apply bw_drew | apply bw_drewN | apply bw_later | apply bw_step))
  have bx0 := Box.new w [.string c0, .string n0, .bool s0, .int .i64 p0, .slice AV nV cV, .string r0, .slice AC code.length cC] 25
  have n1 : (120 : Int) < (code.length : Int) := by omega
  replace hg := Lib.hid hg
  clear hcl
  go_enter Try.func4, Try.ntmps4
  go_wp2_with fail
  refine (hg.out _ hb0).mono ?_
  rintro e w1 ⟨⟨A1, c1, rfl, hc1, hs1⟩, hb1⟩
  have hbw := below_step hb0 hb1
  have bx1 := bx0.mono hb1
  have q6 := bx1.cell 6 rfl
  have ql := bx1.lt
  go_wp2_with fail
  refine (awake_any _).mono ?_
  rintro e w4 ⟨rfl, hb4⟩
  go_wp2_with fail
  go_ret
  exact ⟨rfl, below_step (bw_alloc hbw) hb4⟩
theorem refHeadsSl (c0 n0 : ByteArray) (s0 : Bool) (p0 : Int) (AV : Option Addr) (nV cV : Nat) (r0 : ByteArray) (AC : Option Addr) (cC : Nat) (code : List Ins) (w : World) (hl : code.length ≤ 1024) (hs : Sl Lay.ins w AC code) (hc : Hid (Closed code)) :
    Calls Try.prog 10 #[.agg #[.string c0, .string n0, .bool s0, .int .i64 p0, .slice AV nV cV, .string r0, .slice AC code.length cC]] w fun e w' => RetSl w' (castL (headsTo (edgesTo code code.length) 0 code.length)) e ∧ Below w.heap.size w w' :=
  (heads_any c0 n0 s0 p0 AV nV cV r0 AC cC code w hl hs hc).mono fun e w' h => ⟨h.1.sl, h.2⟩
theorem headsTo_asc (E : List (Int × Int)) (s m : Nat) : (headsTo E s m).Pairwise (· < ·) := by
  unfold headsTo
  exact List.Pairwise.filter _ List.pairwise_lt_range
set_option maxRecDepth 100000 in
set_option maxHeartbeats 4000000 in
theorem cfgLoops_main (c0 n0 : ByteArray) (s0 : Bool) (p0 : Int) (AV : Option Addr) (nV cV : Nat) (r0 : ByteArray) (AC : Option Addr) (cC : Nat) (code : List Ins) (w : World) (hl : code.length ≤ 120) (hs : Sl Lay.ins w AC code) (hc : Hid (Closed code)) :
    Calls Try.prog 4 #[.agg #[.string c0, .string n0, .bool s0, .int .i64 p0, .slice AV nV cV, .string r0, .slice AC code.length cC]] w fun e w' => e = .returned (.bool true) ∧ Below w.heap.size w w' := by
  have hb0 : Below w.heap.size w (w.alloc (.cells #[.string c0, .string n0, .bool s0, .int .i64 p0, .slice AV nV cV, .string r0, .slice AC code.length cC] 25)) := (by repeat (first | assumption | exact Below.refl _ _ | apply bw_alloc | apply bw_drew | apply bw_drewN | apply bw_later | apply bw_step))
  have bx0 := Box.new w [.string c0, .string n0, .bool s0, .int .i64 p0, .slice AV nV cV, .string r0, .slice AC code.length cC] 25
  have n1 : ¬ (120 : Int) < (code.length : Int) := by omega
  have hl2 : code.length ≤ 1024 := by omega
  have HGN := Lib.hid (graph_n c0 n0 s0 p0 AV nV cV r0 AC cC code _ hl2 (hs.mono hb0) hc)
  have HLV := Lib.hid (fun W (h : Below w.heap.size w W) => live_any c0 n0 s0 p0 AV nV cV r0 AC cC code W hl2 (hs.mono h) hc)
  have HHD := Lib.hid (fun W (h : Below w.heap.size w W) => refHeadsSl c0 n0 s0 p0 AV nV cV r0 AC cC code W hl2 (hs.mono h) hc)
  have HIN := Lib.hid (edgesTo_in hc.out)
  have HFR := Lib.hid (edgesTo_from code code.length)
  have hEl := edgesTo_len' code
  obtain ⟨S, HS⟩ : ∃ S, Hid (S = liveB code) := ⟨_, Lib.hid rfl⟩
  have HSL : Hid (S.length = code.length) := by show _ = _; rw [HS.out, liveB_len]
  have HSM : Hid (∀ i, i < code.length → (S[i]? = some true ↔ RA (edgesTo code code.length) 0 none i)) := fun i hi => by
    have h1 : i < (liveB code).length := by rw [liveB_len]; exact hi
    rw [HS.out, List.getElem?_eq_getElem h1, ← liveB_at h1]
    exact ⟨fun h => by injection h, fun h => by rw [h]⟩
  have hLV : Hid (∀ W, Below w.heap.size w W → Calls Try.prog 9 #[.agg #[.string c0, .string n0, .bool s0, .int .i64 p0, .slice AV nV cV, .string r0, .slice AC code.length cC]] W fun e w' => RetSB w' S e ∧ Below W.heap.size W w') := fun W h => (HLV.out W h).mono fun e w' k => ⟨by rw [HS.out]; exact k.1.live, k.2⟩
  obtain ⟨E, HE⟩ : ∃ E, Hid (E = edgesTo code code.length) := ⟨_, Lib.hid rfl⟩
  rw [← HE.out] at HGN HHD HIN HFR hEl HSM
  obtain ⟨H, HH⟩ : ∃ H, Hid (H = headsTo E 0 code.length) := ⟨_, Lib.hid rfl⟩
  rw [← HH.out] at HHD
  have HHA : Hid (H.Pairwise (· < ·)) := by rw [HH.out]; exact headsTo_asc _ _ _
  have HHM : Hid (∀ h ∈ H, h < code.length ∧ IsHead E 0 h) := fun h hh => by rw [HH.out] at hh; exact mem_headsTo.1 hh
  have hHl : H.length ≤ 1000 := by rw [HH.out]; have := headsTo_len E 0 code.length; omega
  clear HLV HS HE HH
  go_enter Try.func4, Try.ntmps4
  go_wp2_with fail
  refine HGN.out.mono ?_
  rintro e w1 ⟨⟨A1, c1, rfl, hc1, hs1⟩, hb1⟩
  have hbw1 := below_step hb0 hb1
  have bx1 := bx0.mono hb1
  clear HGN bx0 hb0 hb1
  have q6 := bx1.cell 6 rfl
  have ql := bx1.lt
  go_upto_region 4 with fail
  have bg2 := Box.new w1 [.int .i64 ((code.length : Int) + 2), .slice A1 E.length c1] 28
  have hb12 := bw_alloc (o := .cells #[.int .i64 ((code.length : Int) + 2), .slice A1 E.length c1] 28) (Below.refl w1.heap.size w1)
  have hbd : Below w1.heap.size w1 (w1.alloc (.cells #[.int .i64 ((code.length : Int) + 2), .slice A1 E.length c1] 28)).drew := bw_drew hb12
  have bx2 := bx1.mono hb12
  have q0 := bx2.cell 0 rfl
  have q1 := bx2.cell 1 rfl
  have q2 := bx2.cell 2 rfl
  have q3 := bx2.cell 3 rfl
  have q4 := bx2.cell 4 rfl
  have q5 := bx2.cell 5 rfl
  have q6' := bx2.cell 6 rfl
  have ql' := bx2.lt
  refine wp_region_RW 6 (by kernel_rfl) (by kernel_rfl) ?_
  refine RW.chunk (f := 4) [0, 2] (by kernel_rfl) ?_
  ((simp only [pickOps, List.filterMap, List.getElem?_toArray, List.getElem?_cons_zero, List.getElem?_cons_succ]); (repeat (go_big_quiet_step (fail))); refine wpQuiet_nil ?_)
  have bg3 : Box (w1.alloc (.cells #[.int .i64 ((code.length : Int) + 2), .slice A1 E.length c1] 28)).drew w1.heap.size [.int .i64 ((code.length : Int) + 2), .slice A1 E.length c1] 28 := bg2
  have bx3 := bx1.mono hbd
  have hs3 := hs1.mono hbd
  have hbw3 := below_step hbw1 hbd
  generalize World.drew _ = W3 at *
  clear q0 q1 q2 q3 q4 q5 q6 ql q6' ql' bx1 bx2 bg2 hb12 hbd hs1 hbw1
  refine RW.single 1 rfl (by kernel_rfl) (by omega) ?_
  intro K hK
  go_wp2_with fail
  refine (hLV.out _ hbw3).mono ?_
  rintro e w4 ⟨⟨A5, c5, rfl, hc5, hs5⟩, hbx⟩
  have hbw4 := below_step hbw3 hbx
  have bx4 := bx3.mono hbx
  have bg4 := bg3.mono hbx
  have hs4 := hs3.mono hbx
  go_wp2_with fail
  refine hK _ _ hbx ?_
  clear hK K hLV bx3 bg3 hs3 hbw3 hbx
  refine RW.single 3 rfl (by kernel_rfl) (by omega) ?_
  intro K hK
  go_wp2_with fail
  refine (HHD.out _ hbw4).mono ?_
  rintro e w6 ⟨⟨A6, c6, rfl, hc6, hs6⟩, hbx⟩
  have hbw6 := below_step hbw4 hbx
  have bx6 := bx4.mono hbx
  have bg6 := bg4.mono hbx
  have hsE := hs4.mono hbx
  have hsS := hs5.mono hbx
  have hHc : (castL H).length = H.length := by simp [castL]
  rw [hHc] at hc6 ⊢
  go_wp2_with fail
  refine hK _ _ hbx ?_
  clear hK K HHD bx4 bg4 hs4 hs5 hbw4 hbx
  refine RW.chunk (f := 0) [4, 5] (by kernel_rfl) ?_
  ((simp only [pickOps, List.filterMap, List.getElem?_toArray, List.getElem?_cons_zero, List.getElem?_cons_succ]); (repeat (go_big_quiet_step (fail))); refine wpQuiet_nil ?_)
  (refine RW.done (by kernel_rfl) (by kernel_rfl) ?_)
  go_wp2_with fail
  go_loopw [7] (fun v7 wr => ∃ i : Nat, i ≤ H.length ∧ v7 = .int .i64 i ∧ Below w6.heap.size w6 wr) (fun v7 _ => H.length - (intOf v7).toNat)
  case atStart => exact ⟨0, Nat.zero_le _, rfl, Below.refl _ _⟩
  case round =>
    obtain ⟨i, hi, rfl, hb⟩ := hrel
    have bxr := bx6.mono hb
    have bgr := bg6.mono hb
    have hsEr := hsE.mono hb
    have hbwr := below_step hbw6 hb
    by_cases hlt : i < H.length
    · obtain ⟨bH, oH, rfl, hbH, dH⟩ := (hs6.mono hb).int_at (i := i) (by rw [hHc]; exact hlt)
      simp only [castL, List.getElem_map] at dH
      obtain ⟨x, hx⟩ : ∃ x, x = H[i] := ⟨_, rfl⟩
      obtain ⟨hxn, hxh⟩ := HHM.out _ (List.getElem_mem hlt)
      rw [← hx] at dH hxn hxh
      have HXH := Lib.hid hxh
      have hxS : x < S.length := by rw [HSL.out]; exact hxn
      obtain ⟨bS, oS, rfl, hbS, dS⟩ := (hsS.mono hb).bool_at hxS
      have hlive : S[x] = true := by
        have h1 : RA E 0 none x := by
          obtain ⟨p, _, hd⟩ := hxh
          exact ((dmB_iff _ _ _ _).1 hd).1
        have h2 := (HSM.out x hxn).2 h1
        rw [List.getElem?_eq_getElem hxS] at h2
        injection h2
      rw [hlive] at dS
      have HSLN := Lib.hid HSL.out
      have hiI : (i : Int) < (H.length : Int) := by omega
      have HIT := Lib.hid hlt
      have hxI : ¬ (x : Int) < 0 := by omega
      have hxI2 : ¬ (S.length : Int) ≤ (x : Int) := by omega
      have hxI3 : (x : Int) < (S.length : Int) := by omega
      have hprev : i ≠ 0 → ∃ y : Nat, y < x ∧ wr.cell? ⟨bH, oH + (i - 1), none⟩ = some (.int .i64 (y : Nat)) := fun h0 => by
        have hi1 : i - 1 < H.length := by omega
        obtain ⟨bH', oH', e', hbH', dH'⟩ := (hs6.mono hb).int_at (i := i - 1) (by rw [hHc]; exact hi1)
        injection e' with e'
        injection e' with z1 z2
        subst z1 z2
        simp only [castL, List.getElem_map] at dH'
        refine ⟨H[i - 1], ?_, dH'⟩
        rw [hx]
        exact List.pairwise_iff_getElem.1 HHA.out (i - 1) i hi1 hlt (by omega)
      clear hx hxh hlive
      go_upto_region 9 with fail
      go_cut [69] (fun v69 wx => v69 = .bool false ∧ wx = wr)
      case first =>
        by_cases h0 : i = 0
        · have hz : decide (0 < i) = false := by simp [h0]
          have hz2 : ¬ (0 : Int) < (i : Int) := by omega
          clear hprev h0
          go_wp2_with fail
          go_meet
          case rel => exact ⟨rfl, rfl⟩
        · obtain ⟨y, hyx, dy⟩ := hprev h0
          have hz : decide (0 < i) = true := by simpa using Nat.pos_of_ne_zero h0
          have hz2 : (0 : Int) < (i : Int) := by omega
          have hz3 : (i : Int) - 1 = ((i - 1 : Nat) : Int) := by omega
          have hz4 : ¬ (x : Int) ≤ (y : Int) := by omega
          have hz5 : ((i - 1 : Nat) : Int) < (H.length : Int) := by omega
          clear hprev h0
          go_wp2_with fail
          go_meet
          case rel => exact ⟨rfl, rfl⟩
      case rest =>
      obtain ⟨rfl, rfl⟩ := hcut
      obtain ⟨wb, hwb⟩ : ∃ wb : World, wb = wc := ⟨_, rfl⟩
      subst hwb
      have hmod : ((code.length : Int) + 2 + 9223372036854775808) % 18446744073709551616 - 9223372036854775808 = (code.length : Int) + 2 := by omega
      have hmk : ∀ W, (Instr.makeSlice 36 (.int .i64 ((code.length : Int) + 2)) (.int .i64 ((code.length : Int) + 2))).run Try.prog W = .ok (.slice (some ⟨W.heap.size, 0, none⟩) (code.length + 2) (code.length + 2)) (W.alloc (.cells (madeCells #[.bool false] (code.length + 2)) 4)) := fun W => by
        have := boolTy.make .i64 .i64 (code.length + 2) (by omega) (by omega) W
        rw [Nat.mul_one] at this
        exact this
      have g0 := bgr.cell 0 rfl
      have gl := bgr.lt
      clear hprev dH dS hbS hbH
      go_upto_region 12 with fail
      generalize hW : World.alloc _ _ = W5
      have ov5 : Own (fun x : Bool => [Value.bool x]) 1 wb.heap.size 4 W5 (.slice (some ⟨wb.heap.size, 0, none⟩) (code.length + 2) (code.length + 2)) (List.replicate (code.length + 2) false) := by
        rw [← hW]
        exact Own.madeAt (c := Value.bool) (.bool false) wb (code.length + 2) (List.replicate (code.length + 2) false) rfl (by simp) (Nat.le_refl _) (by unfold maxLen; omega) (by simp)
      have hb5 : Below wb.heap.size wb W5 := by rw [← hW]; exact bw_alloc (Below.refl _ _)
      clear hW hmk g0 gl
      go_wp2_with fail
      go_loopg [10] (falses (List.replicate (code.length + 2) false) + 1) (fun g v10 wr2 => ∃ (b : Bool) (seen : List Bool), v10 = .bool b ∧ Own (fun x : Bool => [Value.bool x]) 1 wb.heap.size 4 wr2 (.slice (some ⟨wb.heap.size, 0, none⟩) (code.length + 2) (code.length + 2)) seen ∧ Below wb.heap.size wb wr2 ∧ Hid (seen.length = code.length + 2) ∧ Hid ((b = true ∧ falses seen < g) ∨ (b = false ∧ CloE E x seen)))
      case atStart => exact ⟨true, _, rfl, ov5, hb5, by show _ = _; simp, .inl ⟨rfl, Nat.lt_succ_self _⟩⟩
      case round =>
        clear ov5 hb5
        obtain ⟨b, seen, rfl, ov, hbe, HSN, HB⟩ := hrel
        have hx2 : x < seen.length := by rw [HSN.out]; omega
        have hx2I : (x : Int) < ((code.length + 2 : Nat) : Int) := by omega
        have bg2 := bgr.mono hbe
        have bx2 := bxr.mono hbe
        cases b with
        | false =>
          have HCL : Hid (CloE E x seen) := HB.out.elim (fun h => by cases h.1) (fun h => h.2)
          have hsx : seen[x] = true := by
            have := HCL.out.head HXH.out
            rw [List.getElem?_eq_getElem hx2] at this
            injection this
          have d0 := ov.at1 HSN.out hx2
          rw [hsx] at d0
          have dl := ov.ge1.2
          have hb' := hb.trans (hbe.mono hb.size)
          clear hsx HB
          go_wp2_with fail
          go_roundw
          case rel => exact ⟨i + 1, HIT.out, by go_num, hb'⟩
          case measure => have := HIT.out; simp only [intOf]; omega
        | true =>
          have HF : Hid (falses seen < gk) := HB.out.elim (fun h => h.2) (fun h => by cases h.1)
          clear HB
          go_wp2_with fail
          obtain ⟨wo, rfl⟩ : ∃ wo : World, wo = wr := ⟨_, rfl⟩
          go_loopw [10, 11] (fun v10 v11 wr3 => ∃ (ch : Bool) (seen2 : List Bool) (k : Nat), v10 = .bool ch ∧ v11 = .int .i64 k ∧ k ≤ E.length ∧ Own (fun x : Bool => [Value.bool x]) 1 wb.heap.size 4 wr3 (.slice (some ⟨wb.heap.size, 0, none⟩) (code.length + 2) (code.length + 2)) seen2 ∧ Below wb.heap.size wb wr3 ∧ Hid (seen2.length = code.length + 2) ∧
            Hid ((ch = true ∧ falses seen2 < falses seen) ∨ (ch = false ∧ seen2 = seen ∧ ∀ j (hj : j < E.length), j < k → ∀ u v : Nat, E[j] = ((u : Int), (v : Int)) → (u = x ∨ seen[u]? = some true) → seen[v]? = some true))) (fun _ v11 _ => E.length - (intOf v11).toNat)
          case atStart => exact ⟨false, seen, 0, rfl, rfl, Nat.zero_le _, ov, hbe, HSN, .inr ⟨rfl, rfl, fun j hj h => by omega⟩⟩
          case round =>
            clear ov hbe bg2 bx2
            obtain ⟨ch, seen2, k, rfl, rfl, hk, ov, hbe, HS2, HC⟩ := hrel
            have bg2 := bgr.mono hbe
            have g0 := bg2.cell 0 rfl
            have g1 := bg2.cell 1 rfl
            have gl := bg2.lt
            by_cases hkl : k < E.length
            · obtain ⟨bE, oE, rfl, hbE, e0, e1⟩ := (hsEr.mono hbe).int2_at hkl
              have hin := HIN.out _ (List.getElem_mem hkl)
              obtain ⟨f, hf⟩ : ∃ f : Nat, E[k].1 = (f : Int) := ⟨E[k].1.toNat, by have := hin.1; omega⟩
              obtain ⟨t, ht⟩ : ∃ t : Nat, E[k].2 = (t : Int) := ⟨E[k].2.toNat, by have := hin.2.2.1; omega⟩
              have hfn : f < code.length + 2 := by have := hin.2.1; omega
              have htn : t < code.length + 2 := by have := hin.2.2.2; omega
              have HEK : Hid (E[k] = ((f : Int), (t : Int))) := by show _ = _; rw [← hf, ← ht]
              rw [hf] at e0
              rw [ht] at e1
              have hkI : (k : Int) < (E.length : Int) := by omega
              have hkb : k < 5000 := by omega
              have HKT := Lib.hid hkl
              clear hin hf ht
              go_upto_region 19 with fail
              have be := Box.new wr [.int .i64 (f : Nat), .int .i64 (t : Nat)] 33
              have hbe2 := bw_alloc (o := .cells #[.int .i64 (f : Nat), .int .i64 (t : Nat)] 33) (Below.refl wr.heap.size wr)
              have ov1 := ov.mono hbe2
              have hbe1 := hbe.trans (hbe2.mono hbe.size)
              generalize hW1 : wr.alloc (.cells #[.int .i64 (f : Nat), .int .i64 (t : Nat)] 33) = W1 at be hbe2 ov1 hbe1 ⊢
              clear hW1 ov hbe bg2 g0 g1 gl hbE e0 e1 hbe2
              have x0 := be.cell 0 rfl
              have x1 := be.cell 1 rfl
              have xl := be.lt
              have hf2 : f < seen2.length := by rw [HS2.out]; exact hfn
              have ht2 : t < seen2.length := by rw [HS2.out]; exact htn
              have hfI : (f : Int) < ((code.length + 2 : Nat) : Int) := by omega
              have htI : (t : Int) < ((code.length + 2 : Nat) : Int) := by omega
              have df := ov1.at1 HS2.out hf2
              have dt := ov1.at1 HS2.out ht2
              have dl := ov1.ge1.2
              obtain ⟨sf, hsf⟩ : ∃ b, b = seen2[f] := ⟨_, rfl⟩
              obtain ⟨st, hst⟩ : ∃ b, b = seen2[t] := ⟨_, rfl⟩
              rw [← hsf] at df
              rw [← hst] at dt
              have HSF : Hid (seen2[f]? = some sf) := by show _ = _; rw [hsf]; exact List.getElem?_eq_getElem hf2
              have HST : Hid (seen2[t]? = some st) := by show _ = _; rw [hst]; exact List.getElem?_eq_getElem ht2
              clear hsf hst
              go_cut [104] (fun v104 wx => v104 = .bool ((decide (f = x) || sf) && !st) ∧ wx = W1)
              case first =>
                clear HSF HST
                by_cases hfx : f = x
                · have tq : ((f : Int) == (x : Int)) = true := by simp [hfx]
                  have td : decide (f = x) = true := decide_eq_true hfx
                  clear hfx
                  cases st with
                  | true =>
                    go_wp2_with fail
                    go_meet
                    case rel => exact ⟨by rw [td]; rfl, rfl⟩
                  | false =>
                    go_wp2_with fail
                    go_meet
                    case rel => exact ⟨by rw [td]; rfl, rfl⟩
                · have tq : ((f : Int) == (x : Int)) = false := by simp; omega
                  have td : decide (f = x) = false := decide_eq_false hfx
                  clear hfx
                  cases sf with
                  | true =>
                    cases st with
                    | true =>
                      go_wp2_with fail
                      go_meet
                      case rel => exact ⟨by rw [td]; rfl, rfl⟩
                    | false =>
                      go_wp2_with fail
                      go_meet
                      case rel => exact ⟨by rw [td]; rfl, rfl⟩
                  | false =>
                    go_wp2_with fail
                    go_meet
                    case rel => exact ⟨by rw [td]; rfl, rfl⟩
              case rest =>
              obtain ⟨rfl, hwc2⟩ := hcut
              subst hwc2
              generalize hbb : ((decide (f = x) || sf) && !st) = bb
              have HBB := Lib.hid hbb
              clear hbb
              cases bb with
              | true =>
                have HST2 : Hid (seen2[t]? = some false) := by
                  have h1 := HBB.out
                  rw [Bool.and_eq_true] at h1
                  have h2 : st = false := by simpa using h1.2
                  show _ = _
                  rw [HST.out, h2]
                have dff := ov1.free1 HS2.out t
                have ov2 := ov1.set1 HS2.out t true
                have hbe3 := hbe1.setCell (p := ⟨wb.heap.size, t, none⟩) (Nat.le_refl _) (.bool true)
                have HS3 : Hid ((seen2.set t true).length = code.length + 2) := by show _ = _; rw [List.length_set]; exact HS2.out
                have HC3 : Hid (falses (seen2.set t true) < falses seen) := by
                  show _ < _
                  have h1 := falses_set HST2.out
                  rcases HC.out with ⟨_, h⟩ | ⟨_, h, _⟩
                  · omega
                  · rw [h] at h1 ⊢; omega
                clear HBB HSF HST HST2 HC ov1 hbe1
                go_wp2_with fail
                go_roundw
                case rel => exact ⟨true, _, k + 1, rfl, by go_num, HKT.out, ov2, hbe3, HS3, .inl ⟨rfl, HC3.out⟩⟩
                case measure => have := HKT.out; simp only [intOf]; omega
              | false =>
                have HC3 : Hid ((ch = true ∧ falses seen2 < falses seen) ∨ (ch = false ∧ seen2 = seen ∧ ∀ j (hj : j < E.length), j < k + 1 → ∀ u v : Nat, E[j] = ((u : Int), (v : Int)) → (u = x ∨ seen[u]? = some true) → seen[v]? = some true)) := by
                  rcases HC.out with h | ⟨h1, h2, h3⟩
                  · exact .inl h
                  · refine .inr ⟨h1, h2, fun j hj hjk u v he hu => ?_⟩
                    by_cases e : j = k
                    · subst e
                      rw [HEK.out] at he
                      have hu1 : u = f := by have h := congrArg Prod.fst he; exact (Int.natCast_inj.1 h).symm
                      have hv1 : v = t := by have h := congrArg Prod.snd he; exact (Int.natCast_inj.1 h).symm
                      rw [hu1] at hu
                      rw [hv1, ← h2, HST.out]
                      have hA : (decide (f = x) || sf) = true := by
                        rcases hu with hu | hu
                        · rw [decide_eq_true hu]; rfl
                        · rw [← h2, HSF.out] at hu
                          have : sf = true := by injection hu
                          rw [this, Bool.or_true]
                      have h4 := HBB.out
                      rw [hA, Bool.true_and] at h4
                      cases st with
                      | true => rfl
                      | false => cases h4
                    · exact h3 j hj (by omega) u v he hu
                clear HBB HSF HST HC
                go_wp2_with fail
                go_roundw
                case rel => exact ⟨ch, seen2, k + 1, rfl, by go_num, HKT.out, ov1, hbe1, HS2, HC3⟩
                case measure => have := HKT.out; simp only [intOf]; omega
            · obtain rfl : k = E.length := by omega
              clear hkl
              go_wp2_with fail
              go_roundg (falses seen)
              case measure => exact HF.out
              case rel =>
                refine ⟨ch, seen2, rfl, ov, hbe, HS2, ?_⟩
                rcases HC.out with ⟨h1, h2⟩ | ⟨h1, h2, h3⟩
                · exact .inl ⟨h1, h2⟩
                · refine .inr ⟨h1, ⟨fun u v hE hu => ?_⟩⟩
                  rw [h2] at hu ⊢
                  obtain ⟨j, hj, ej⟩ := List.getElem_of_mem hE
                  exact h3 j hj hj u v ej hu
    · obtain rfl : i = H.length := by omega
      have g0 := bgr.cell 0 rfl
      have g1 := bgr.cell 1 rfl
      have gl := bgr.lt
      have q6 := bxr.cell 6 rfl
      have ql := bxr.lt
      clear hlt
      go_wp2_with fail
      obtain ⟨wo, rfl⟩ : ∃ wo : World, wo = wr := ⟨_, rfl⟩
      go_loopw [13] (fun v13 wr2 => ∃ k : Nat, k ≤ E.length ∧ v13 = .int .i64 k ∧ Below wo.heap.size wo wr2) (fun v13 _ => E.length - (intOf v13).toNat)
      case atStart => exact ⟨0, Nat.zero_le _, rfl, Below.refl _ _⟩
      case round =>
        clear g0 g1 gl q6 ql
        obtain ⟨k, hk, rfl, hbk⟩ := hrel
        have g0 := (bgr.mono hbk).cell 0 rfl
        have g1 := (bgr.mono hbk).cell 1 rfl
        have gl := (bgr.mono hbk).lt
        have q6 := (bxr.mono hbk).cell 6 rfl
        have ql := (bxr.mono hbk).lt
        have hbw := hbwr.trans (hbk.mono hbwr.size)
        by_cases hkl : k < E.length
        · obtain ⟨bE, oE, rfl, hbE, e0, e1⟩ := (hsEr.mono hbk).int2_at hkl
          obtain ⟨f, hf⟩ : ∃ f, f = E[k].1 := ⟨_, rfl⟩
          have hfn : ¬ (code.length : Int) ≤ f := by rw [hf]; have := HFR.out _ (List.getElem_mem hkl); omega
          rw [← hf] at e0
          have hkI : (k : Int) < (E.length : Int) := by omega
          have hkb : k < 5000 := by omega
          have HKT := Lib.hid hkl
          clear hf e1
          go_wp2_with fail
          refine wp_region_later (by kernel_rfl) (by kernel_rfl) ?_
          repeat (go_big_quiet_step (fail))
          refine wpQuiet_nil ?_
          rintro _ ⟨z, rfl⟩
          have hbz := below_step hbk z.h
          clear e0 g0 g1 gl q6 ql hbE
          generalize z.W = wz at *
          go_wp2_with fail
          go_roundw
          case rel => exact ⟨k + 1, HKT.out, by go_num, hbz⟩
          case measure => have := HKT.out; simp only [intOf]; omega
        · obtain rfl : k = E.length := by omega
          clear hkl
          go_wp2_with fail
          refine (awake_any _).mono ?_
          rintro e w8 ⟨rfl, hb8⟩
          go_wp2_with fail
          go_ret
          exact ⟨rfl, below_step hbw hb8⟩
/-- The law CfgLoops returns true. -/
theorem walk_CfgLoops (c0 n0 : ByteArray) (s0 : Bool) (p0 : Int) (AV : Option Addr) (nV cV : Nat) (r0 : ByteArray) (AC : Option Addr) (cC : Nat) (code : List Ins) (w : World) (hm : code.length ≤ maxLen) (hs : Sl Lay.ins w AC code) :
    Calls Try.prog 4 #[.agg #[.string c0, .string n0, .bool s0, .int .i64 p0, .slice AV nV cV, .string r0, .slice AC code.length cC]] w fun e w' => e = .returned (.bool true) ∧ Below w.heap.size w w' := by
  by_cases hl : code.length ≤ 1024
  · by_cases hc : Closed code
    · by_cases hl2 : code.length ≤ 120
      · exact cfgLoops_main c0 n0 s0 p0 AV nV cV r0 AC cC code w hl2 hs hc
      · exact cfgLoops_big (edgesTo code code.length) c0 n0 s0 p0 AV nV cV r0 AC cC code w hl2 hl (fun W hW => graph_n c0 n0 s0 p0 AV nV cV r0 AC cC code W hl (hs.mono hW) hc)
    · exact cfgLoops_no 4 (by decide) c0 n0 s0 p0 AV nV cV r0 AC cC code w (fun W hW => graph_open c0 n0 s0 p0 AV nV cV r0 AC cC code W hl (hs.mono hW) hc)
  · exact cfgLoops_no 3 (by decide) c0 n0 s0 p0 AV nV cV r0 AC cC code w (fun W hW => graph_long c0 n0 s0 p0 AV nV cV r0 AC cC code W hm (by omega))
end Go.Proofs.Ythlpndgfphjlkaa
