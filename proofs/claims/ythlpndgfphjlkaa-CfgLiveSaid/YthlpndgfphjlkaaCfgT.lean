/-
  Chapter 14: the walk of the law CfgLive.
-/
import Derived.Test.YthlpndgfphjlkaaMgCfg
namespace Go.Proofs.Ythlpndgfphjlkaa
open Go.RowKit
set_option linter.unusedVariables false

set_option maxRecDepth 100000 in
set_option maxHeartbeats 4000000 in
theorem cfgLive_same (i x : Int) (S : List Bool) (H : List Int) (c0 n0 : ByteArray) (s0 : Bool) (p0 : Int) (AV : Option Addr) (nV cV : Nat) (r0 : ByteArray) (AC : Option Addr) (cC : Nat) (code : List Ins) (w : World) (hS : S.length ≤ 2000) (hH : H.length ≤ 2000) (hcl : code.length ≤ 120)
    (h1 : ∀ W, Below w.heap.size w W → Calls Try.prog 9 #[.agg #[.string c0, .string n0, .bool s0, .int .i64 p0, .slice AV nV cV, .string r0, .slice AC code.length cC]] W fun e w' => RetSB w' S e ∧ Below W.heap.size W w')
    (h2 : ∀ W, Below w.heap.size w W → Calls Try.prog 11 #[.agg #[.string c0, .string n0, .bool s0, .int .i64 p0, .slice AV nV cV, .string r0, .slice AC code.length cC]] W fun e w' => RetSB w' S e ∧ Below W.heap.size W w')
    (h3 : ∀ W, Below w.heap.size w W → Calls Try.prog 12 #[.agg #[.string c0, .string n0, .bool s0, .int .i64 p0, .slice AV nV cV, .string r0, .slice AC code.length cC], .int .i64 i] W fun e w' => e = .returned (.int .i64 x) ∧ Below W.heap.size W w')
    (h4 : ∀ W, Below w.heap.size w W → Calls Try.prog 13 #[.agg #[.string c0, .string n0, .bool s0, .int .i64 p0, .slice AV nV cV, .string r0, .slice AC code.length cC], .int .i64 i] W fun e w' => e = .returned (.int .i64 x) ∧ Below W.heap.size W w')
    (h5 : ∀ W, Below w.heap.size w W → Calls Try.prog 10 #[.agg #[.string c0, .string n0, .bool s0, .int .i64 p0, .slice AV nV cV, .string r0, .slice AC code.length cC]] W fun e w' => RetSl w' H e ∧ Below W.heap.size W w')
    (h6 : ∀ W, Below w.heap.size w W → Calls Try.prog 15 #[.agg #[.string c0, .string n0, .bool s0, .int .i64 p0, .slice AV nV cV, .string r0, .slice AC code.length cC]] W fun e w' => RetSl w' H e ∧ Below W.heap.size W w') :
    Calls Try.prog 5 #[.agg #[.string c0, .string n0, .bool s0, .int .i64 p0, .slice AV nV cV, .string r0, .slice AC code.length cC], .int .i64 i] w fun e w' => e = .returned (.bool true) ∧ Below w.heap.size w w' := by
  have hb0 : Below w.heap.size w (w.alloc (.cells #[.string c0, .string n0, .bool s0, .int .i64 p0, .slice AV nV cV, .string r0, .slice AC code.length cC] 25)) := (by repeat (first | assumption | exact Below.refl _ _ | apply bw_alloc | apply bw_drew | apply bw_drewN | apply bw_later | apply bw_step))
  have bx0 := Box.new w [.string c0, .string n0, .bool s0, .int .i64 p0, .slice AV nV cV, .string r0, .slice AC code.length cC] 25
  have n1 : ¬ (120 : Int) < (code.length : Int) := by omega
  replace h1 := Lib.hid h1
  replace h2 := Lib.hid h2
  replace h3 := Lib.hid h3
  replace h4 := Lib.hid h4
  replace h5 := Lib.hid h5
  replace h6 := Lib.hid h6
  go_enter Try.func5, Try.ntmps5
  go_upto_region 3 with fail
  generalize World.alloc _ _ = W0 at *
  have q0 := bx0.cell 0 rfl
  have q1 := bx0.cell 1 rfl
  have q2 := bx0.cell 2 rfl
  have q3 := bx0.cell 3 rfl
  have q4 := bx0.cell 4 rfl
  have q5 := bx0.cell 5 rfl
  have q6 := bx0.cell 6 rfl
  have ql := bx0.lt
  refine wp_region_RW 6 (by kernel_rfl) (by kernel_rfl) ?_
  refine RW.chunk (f := 4) [0, 2] (by kernel_rfl) ?_
  ((simp only [pickOps, List.filterMap, List.getElem?_toArray, List.getElem?_cons_zero, List.getElem?_cons_succ]); (repeat (go_big_quiet_step (fail))); refine wpQuiet_nil ?_)
  have hbd : Below W0.heap.size W0 W0.drew := (by repeat (first | assumption | exact Below.refl _ _ | apply bw_alloc | apply bw_drew | apply bw_drewN | apply bw_later | apply bw_step))
  have hb1 := below_step hb0 hbd
  have bx1 := bx0.mono hbd
  generalize World.drew W0 = W1 at *
  clear q0 q1 q2 q3 q4 q5 q6 ql bx0 hb0 hbd
  refine RW.single 1 rfl (by kernel_rfl) (by omega) ?_
  intro K hK
  go_wp2_with fail
  refine (h1.out _ hb1).mono ?_
  rintro e w2 ⟨⟨A1, c1, rfl, hc1, hs1⟩, hbx⟩
  have hb2 := below_step hb1 hbx
  have bx2 := bx1.mono hbx
  go_wp2_with fail
  refine hK _ _ hbx ?_
  clear hK K h1 bx1 hb1 hbx
  refine RW.single 3 rfl (by kernel_rfl) (by omega) ?_
  intro K hK
  go_wp2_with fail
  refine (h2.out _ hb2).mono ?_
  rintro e w3 ⟨⟨A2, c2, rfl, hc2, hs2⟩, hbx⟩
  have hb3 := below_step hb2 hbx
  have bx3 := bx2.mono hbx
  replace hs1 := hs1.mono hbx
  go_wp2_with fail
  refine hK _ _ hbx ?_
  clear hK K h2 bx2 hb2 hbx
  refine RW.chunk (f := 0) [4, 5] (by kernel_rfl) ?_
  ((simp only [pickOps, List.filterMap, List.getElem?_toArray, List.getElem?_cons_zero, List.getElem?_cons_succ]); (repeat (go_big_quiet_step (fail))); refine wpQuiet_nil ?_)
  (refine RW.done (by kernel_rfl) (by kernel_rfl) ?_)
  have q0 := bx3.cell 0 rfl
  have q1 := bx3.cell 1 rfl
  have q2 := bx3.cell 2 rfl
  have q3 := bx3.cell 3 rfl
  have q4 := bx3.cell 4 rfl
  have q5 := bx3.cell 5 rfl
  have q6 := bx3.cell 6 rfl
  have ql := bx3.lt
  have t0 : ((S.length : Int) != (S.length : Int)) = false := by simp
  go_upto_region 4 with fail
  refine wp_region_RW 22 (by kernel_rfl) (by kernel_rfl) ?_
  refine RW.chunk (f := 12) [0, 1, 2, 3, 4, 5, 6, 7, 9, 10] (by kernel_rfl) ?_
  ((simp only [pickOps, List.filterMap, List.getElem?_toArray, List.getElem?_cons_zero, List.getElem?_cons_succ]); (repeat (go_big_quiet_step (fail))); refine wpQuiet_nil ?_)
  have hbd : Below w3.heap.size w3 w3.drew := (by repeat (first | assumption | exact Below.refl _ _ | apply bw_alloc | apply bw_drew | apply bw_drewN | apply bw_later | apply bw_step))
  have hb4 := below_step hb3 hbd
  have bx4 := bx3.mono hbd
  replace hs1 := hs1.mono hbd
  replace hs2 := hs2.mono hbd
  generalize World.drew w3 = W4 at *
  clear q0 q1 q2 q3 q4 q5 q6 ql bx3 hb3 hbd
  refine RW.single 8 rfl (by kernel_rfl) (by omega) ?_
  intro K hK
  go_wp2_with fail
  refine (h3.out _ hb4).mono ?_
  rintro e w5 ⟨rfl, hbx⟩
  have hb5 := below_step hb4 hbx
  have bx5 := bx4.mono hbx
  replace hs1 := hs1.mono hbx
  replace hs2 := hs2.mono hbx
  go_wp2_with fail
  refine hK _ _ hbx ?_
  clear hK K h3 bx4 hb4 hbx
  refine RW.single 11 rfl (by kernel_rfl) (by omega) ?_
  intro K hK
  go_wp2_with fail
  refine (h4.out _ hb5).mono ?_
  rintro e w6 ⟨rfl, hbx⟩
  have hb6 := below_step hb5 hbx
  have bx6 := bx5.mono hbx
  replace hs1 := hs1.mono hbx
  replace hs2 := hs2.mono hbx
  go_wp2_with fail
  refine hK _ _ hbx ?_
  clear hK K h4 bx5 hb5 hbx
  have q0 := bx6.cell 0 rfl
  have q1 := bx6.cell 1 rfl
  have q2 := bx6.cell 2 rfl
  have q3 := bx6.cell 3 rfl
  have q4 := bx6.cell 4 rfl
  have q5 := bx6.cell 5 rfl
  have q6 := bx6.cell 6 rfl
  have ql := bx6.lt
  have tx : (x != x) = false := by simp
  refine RW.chunk (f := 5) [12, 13, 14, 15, 17] (by kernel_rfl) ?_
  ((simp only [pickOps, List.filterMap, List.getElem?_toArray, List.getElem?_cons_zero, List.getElem?_cons_succ]); (repeat (go_big_quiet_step (fail))); refine wpQuiet_nil ?_)
  clear q0 q1 q2 q3 q4 q5 q6 ql
  refine RW.single 16 rfl (by kernel_rfl) (by omega) ?_
  intro K hK
  go_wp2_with fail
  refine (h5.out _ hb6).mono ?_
  rintro e w7 ⟨⟨A3, c3, rfl, hc3, hs3⟩, hbx⟩
  have hb7 := below_step hb6 hbx
  replace hs1 := hs1.mono hbx
  replace hs2 := hs2.mono hbx
  go_wp2_with fail
  refine hK _ _ hbx ?_
  clear hK K h5 hb6 hbx
  refine RW.single 18 rfl (by kernel_rfl) (by omega) ?_
  intro K hK
  go_wp2_with fail
  refine (h6.out _ hb7).mono ?_
  rintro e w8 ⟨⟨A4, c4, rfl, hc4, hs4⟩, hbx⟩
  have hb8 := below_step hb7 hbx
  replace hs1 := hs1.mono hbx
  replace hs2 := hs2.mono hbx
  replace hs3 := hs3.mono hbx
  go_wp2_with fail
  refine hK _ _ hbx ?_
  clear hK K h6 hb7 hbx
  refine RW.single 19 rfl (by kernel_rfl) (by omega) ?_
  intro K hK
  go_wp2_with fail
  refine (sameInts_any A3 A4 c3 c4 H w8 (by omega) hs3 hs4).mono ?_
  rintro e w9 ⟨rfl, hbx⟩
  have hb9 := below_step hb8 hbx
  replace hs1 := hs1.mono hbx
  replace hs2 := hs2.mono hbx
  go_wp2_with fail
  refine hK _ _ hbx ?_
  clear hK K hb8 hbx hs3 hs4
  refine RW.chunk (f := 0) [20, 21] (by kernel_rfl) ?_
  ((simp only [pickOps, List.filterMap, List.getElem?_toArray, List.getElem?_cons_zero, List.getElem?_cons_succ]); (repeat (go_big_quiet_step (fail))); refine wpQuiet_nil ?_)
  (refine RW.done (by kernel_rfl) (by kernel_rfl) ?_)
  go_wp2_with fail
  go_loopw [7] (fun v7 wr => ∃ j : Nat, j ≤ S.length ∧ v7 = .int .i64 j ∧ Below w.heap.size w wr ∧ Sl Lay.bool wr A1 S ∧ Sl Lay.bool wr A2 S) (fun v7 _ => S.length - (intOf v7).toNat)
  case atStart => exact ⟨0, Nat.zero_le _, rfl, hb9, hs1, hs2⟩
  case round =>
    clear hb9 hs1 hs2
    obtain ⟨j, hj, rfl, hb, hs1, hs2⟩ := hrel
    by_cases hlt : j < S.length
    · obtain ⟨b1, o1, rfl, hb1, d1⟩ := hs1.bool_at hlt
      obtain ⟨b2, o2, rfl, hb2, d2⟩ := hs2.bool_at hlt
      have hjI : (j : Int) < (S.length : Int) := by omega
      have HJT := Lib.hid hlt
      obtain ⟨y, d3, d4⟩ : ∃ y : Bool, wr.cell? ⟨b1, o1 + j, none⟩ = some (.bool y) ∧ wr.cell? ⟨b2, o2 + j, none⟩ = some (.bool y) := ⟨_, d1, d2⟩
      have ty : (y != y) = false := by simp
      clear d1 d2
      go_wp2_with fail
      refine wp_region_later (by kernel_rfl) (by kernel_rfl) ?_
      repeat (go_big_quiet_step (fail))
      refine wpQuiet_nil ?_
      rintro _ ⟨z, rfl⟩
      have hbz := below_step hb z.h
      replace hs1 := hs1.mono z.h
      replace hs2 := hs2.mono z.h
      clear d3 d4 hb1 hb2
      generalize z.W = wz at *
      go_wp2_with fail
      go_roundw
      case rel => exact ⟨j + 1, HJT.out, by go_num, hbz, hs1, hs2⟩
      case measure => have := HJT.out; simp only [intOf]; omega
    · obtain rfl : j = S.length := by omega
      go_wp2_with fail
      refine (awake_any _).mono ?_
      rintro e w4 ⟨rfl, hb4⟩
      go_wp2_with fail
      go_ret
      exact ⟨rfl, below_step hb hb4⟩
/-- The law CfgLive returns true. -/
theorem walk_CfgLive (i : Int) (c0 n0 : ByteArray) (s0 : Bool) (p0 : Int) (AV : Option Addr) (nV cV : Nat) (r0 : ByteArray) (AC : Option Addr) (cC : Nat) (code : List Ins) (w : World) (hm : code.length ≤ maxLen) (hs : Sl Lay.ins w AC code) :
    Calls Try.prog 5 #[.agg #[.string c0, .string n0, .bool s0, .int .i64 p0, .slice AV nV cV, .string r0, .slice AC code.length cC], .int .i64 i] w fun e w' => e = .returned (.bool true) ∧ Below w.heap.size w w' := by
  by_cases hcl : code.length ≤ 120
  · have hl : code.length ≤ 1024 := by omega
    by_cases hc : Closed code
    · refine cfgLive_same i (hdlV code i) (liveB code) (castL (headsTo (edgesTo code code.length) 0 code.length)) c0 n0 s0 p0 AV nV cV r0 AC cC code w (by rw [liveB_len]; omega) (by unfold castL; rw [List.length_map]; have := headsTo_len (edgesTo code code.length) 0 code.length; omega) hcl ?_ ?_ ?_ ?_ ?_ ?_
      · exact fun W hW => (live_any c0 n0 s0 p0 AV nV cV r0 AC cC code W hl (hs.mono hW) hc).mono fun e w' h => ⟨h.1.live, h.2⟩
      · exact fun W hW => (refLive_any c0 n0 s0 p0 AV nV cV r0 AC cC code W hl (hs.mono hW) hc).mono fun e w' h => ⟨h.1.live, h.2⟩
      · exact fun W hW => handlerX_any c0 n0 s0 p0 AV nV cV r0 AC cC code i W hl (hs.mono hW)
      · exact fun W hW => refHandlerX_any c0 n0 s0 p0 AV nV cV r0 AC cC code i W hl (hs.mono hW)
      · exact fun W hW => (heads_any c0 n0 s0 p0 AV nV cV r0 AC cC code W hl (hs.mono hW) hc).mono fun e w' h => ⟨h.1.sl, h.2⟩
      · exact fun W hW => refHeads_any c0 n0 s0 p0 AV nV cV r0 AC cC code W hl (hs.mono hW) hc
    · refine cfgLive_same i (hdlV code i) [] [] c0 n0 s0 p0 AV nV cV r0 AC cC code w (by simp) (by simp) hcl ?_ ?_ ?_ ?_ ?_ ?_
      · exact fun W hW => live_open c0 n0 s0 p0 AV nV cV r0 AC cC code W hl (hs.mono hW) hc
      · exact fun W hW => refLive_open c0 n0 s0 p0 AV nV cV r0 AC cC code W hl (hs.mono hW) hc
      · exact fun W hW => handlerX_any c0 n0 s0 p0 AV nV cV r0 AC cC code i W hl (hs.mono hW)
      · exact fun W hW => refHandlerX_any c0 n0 s0 p0 AV nV cV r0 AC cC code i W hl (hs.mono hW)
      · exact fun W hW => heads_open c0 n0 s0 p0 AV nV cV r0 AC cC code W hl (hs.mono hW) hc
      · exact fun W hW => refHeads_open c0 n0 s0 p0 AV nV cV r0 AC cC code W hl (hs.mono hW) hc
  · have hb0 : Below w.heap.size w (w.alloc (.cells #[.string c0, .string n0, .bool s0, .int .i64 p0, .slice AV nV cV, .string r0, .slice AC code.length cC] 25)) := (by repeat (first | assumption | exact Below.refl _ _ | apply bw_alloc | apply bw_drew | apply bw_drewN | apply bw_later | apply bw_step))
    have n1 : (120 : Int) < (code.length : Int) := by omega
    unfold maxLen at hm
    go_enter Try.func5, Try.ntmps5
    go_wp2_with fail
    refine (awake_any _).mono ?_
    rintro e w4 ⟨rfl, hb4⟩
    go_wp2_with fail
    go_ret
    exact ⟨rfl, below_step hb0 hb4⟩
end Go.Proofs.Ythlpndgfphjlkaa
