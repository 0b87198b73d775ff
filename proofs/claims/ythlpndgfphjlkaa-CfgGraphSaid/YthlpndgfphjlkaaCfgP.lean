/-
  Chapter 14: the walk of the law CfgGraph.
-/
import Derived.Test.YthlpndgfphjlkaaCfgO
namespace Go.Proofs.Ythlpndgfphjlkaa
open Go.RowKit
set_option linter.unusedVariables false

set_option maxRecDepth 100000 in
set_option maxHeartbeats 1000000 in
theorem cfgGraph_no (x : Int) (c0 n0 : ByteArray) (s0 : Bool) (p0 : Int) (AV : Option Addr) (nV cV : Nat) (r0 : ByteArray) (AC : Option Addr) (cC : Nat) (code : List Ins) (w : World)
    (hg : ∀ W, Below w.heap.size w W → Calls Try.prog 6 #[.agg #[.string c0, .string n0, .bool s0, .int .i64 p0, .slice AV nV cV, .string r0, .slice AC code.length cC]] W fun e w' => e = noG x ∧ Below W.heap.size W w')
    (hr : ∀ W, Below w.heap.size w W → Calls Try.prog 7 #[.agg #[.string c0, .string n0, .bool s0, .int .i64 p0, .slice AV nV cV, .string r0, .slice AC code.length cC]] W fun e w' => e = noG x ∧ Below W.heap.size W w') :
    Calls Try.prog 3 #[.agg #[.string c0, .string n0, .bool s0, .int .i64 p0, .slice AV nV cV, .string r0, .slice AC code.length cC]] w fun e w' => e = .returned (.bool true) ∧ Below w.heap.size w w' := by
  have bx0 := Box.new w [.string c0, .string n0, .bool s0, .int .i64 p0, .slice AV nV cV, .string r0, .slice AC code.length cC] 25
  have hb0 : Below w.heap.size w (w.alloc (.cells #[.string c0, .string n0, .bool s0, .int .i64 p0, .slice AV nV cV, .string r0, .slice AC code.length cC] 25)) := (by repeat (first | assumption | exact Below.refl _ _ | apply bw_alloc | apply bw_drew | apply bw_drewN | apply bw_later | apply bw_step))
  replace hg := Lib.hid hg
  replace hr := Lib.hid hr
  go_enter Try.func3, Try.ntmps3
  go_wp2_with fail
  refine (hg.out _ hb0).mono ?_
  rintro e w1 ⟨rfl, hb1⟩
  have hb1w := below_step hb0 hb1
  have bx1 := bx0.mono hb1
  have y0 := bx1.cell 0 rfl
  have y1 := bx1.cell 1 rfl
  have y2 := bx1.cell 2 rfl
  have y3 := bx1.cell 3 rfl
  have y4 := bx1.cell 4 rfl
  have y5 := bx1.cell 5 rfl
  have y6 := bx1.cell 6 rfl
  have yl := bx1.lt
  have bg1 := Box.new w1 [.int .i64 0, .slice none 0 0] 28
  have hbg1 : Below w.heap.size w (w1.alloc (.cells #[.int .i64 0, .slice none 0 0] 28)) := bw_alloc hb1w
  unfold noG
  go_wp2_with fail
  refine (hr.out _ hbg1).mono ?_
  rintro e w2 ⟨rfl, hb2⟩
  have bg2 := bg1.mono hb2
  have z0 := bg2.cell 0 rfl
  have z1 := bg2.cell 1 rfl
  have zl := bg2.lt
  have hb2w := below_step hbg1 hb2
  unfold noG
  go_wp2_with fail
  go_loop [7] (fun i => i = .int .i64 0) (fun _ => 0)
  case atStart => rfl
  case round =>
    obtain rfl := hrel
    go_wp2_with fail
    refine (awake_any _).mono ?_
    rintro e w3 ⟨rfl, hb3⟩
    go_wp2_with fail
    go_ret
    exact ⟨rfl, below_step (bw_alloc hb2w) hb3⟩
set_option maxRecDepth 100000 in
set_option maxHeartbeats 1000000 in
theorem cfgGraph_yes (n : Int) (E : List (Int × Int)) (hE : E.length ≤ 100000) (c0 n0 : ByteArray) (s0 : Bool) (p0 : Int) (AV : Option Addr) (nV cV : Nat) (r0 : ByteArray) (AC : Option Addr) (cC : Nat) (code : List Ins) (w : World)
    (hg : ∀ W, Below w.heap.size w W → Calls Try.prog 6 #[.agg #[.string c0, .string n0, .bool s0, .int .i64 p0, .slice AV nV cV, .string r0, .slice AC code.length cC]] W fun e w' => RetG w' n E e ∧ Below W.heap.size W w')
    (hr : ∀ W, Below w.heap.size w W → Calls Try.prog 7 #[.agg #[.string c0, .string n0, .bool s0, .int .i64 p0, .slice AV nV cV, .string r0, .slice AC code.length cC]] W fun e w' => RetG w' n E e ∧ Below W.heap.size W w') :
    Calls Try.prog 3 #[.agg #[.string c0, .string n0, .bool s0, .int .i64 p0, .slice AV nV cV, .string r0, .slice AC code.length cC]] w fun e w' => e = .returned (.bool true) ∧ Below w.heap.size w w' := by
  have bx0 := Box.new w [.string c0, .string n0, .bool s0, .int .i64 p0, .slice AV nV cV, .string r0, .slice AC code.length cC] 25
  have hb0 : Below w.heap.size w (w.alloc (.cells #[.string c0, .string n0, .bool s0, .int .i64 p0, .slice AV nV cV, .string r0, .slice AC code.length cC] 25)) := (by repeat (first | assumption | exact Below.refl _ _ | apply bw_alloc | apply bw_drew | apply bw_drewN | apply bw_later | apply bw_step))
  replace hg := Lib.hid hg
  replace hr := Lib.hid hr
  go_enter Try.func3, Try.ntmps3
  go_wp2_with fail
  refine (hg.out _ hb0).mono ?_
  rintro e w1 ⟨⟨A1, c1, rfl, hc1, hs1⟩, hb1⟩
  have hb1w := below_step hb0 hb1
  have bx1 := bx0.mono hb1
  have y0 := bx1.cell 0 rfl
  have y1 := bx1.cell 1 rfl
  have y2 := bx1.cell 2 rfl
  have y3 := bx1.cell 3 rfl
  have y4 := bx1.cell 4 rfl
  have y5 := bx1.cell 5 rfl
  have y6 := bx1.cell 6 rfl
  have yl := bx1.lt
  have bg1 := Box.new w1 [.int .i64 n, .slice A1 E.length c1] 28
  have hbg1 : Below w.heap.size w (w1.alloc (.cells #[.int .i64 n, .slice A1 E.length c1] 28)) := bw_alloc hb1w
  go_wp2_with fail
  refine (hr.out _ hbg1).mono ?_
  rintro e w2 ⟨⟨A2, c2, rfl, hc2, hs2⟩, hb2⟩
  have bg2 := bg1.mono hb2
  have z0 := bg2.cell 0 rfl
  have z1 := bg2.cell 1 rfl
  have zl := bg2.lt
  have hb2w := below_step hbg1 hb2
  have hs1' := (hs1.mono (bw_alloc (o := .cells #[.int .i64 n, .slice A1 E.length c1] 28) (Below.refl _ _))).mono hb2
  have bh2 := Box.new w2 [.int .i64 n, .slice A2 E.length c2] 28
  have hbh2 : Below w2.heap.size w2 (w2.alloc (.cells #[.int .i64 n, .slice A2 E.length c2] 28)) := bw_alloc (Below.refl _ _)
  go_wp2_with fail
  generalize hW : World.alloc w2 _ = W3 at *
  have bg3 : Box W3 w1.heap.size [.int .i64 n, .slice A1 E.length c1] 28 := bg2.mono hbh2
  have hs3 := hs1'.mono hbh2
  have hs4 := hs2.mono hbh2
  have hb3w := below_step hb2w hbh2
  clear hW hs1 hs2 hs1' hbh2 bg1 bg2 z0 z1 zl y0 y1 y2 y3 y4 y5 y6 yl bx1
  go_loopw [7] (fun i wr => ∃ k : Nat, k ≤ E.length ∧ i = .int .i64 k ∧ Below W3.heap.size W3 wr) (fun i _ => E.length - (intOf i).toNat)
  case atStart => exact ⟨0, Nat.zero_le _, rfl, Below.refl _ _⟩
  case round =>
    obtain ⟨k, hk, rfl, hbw⟩ := hrel
    have bg := bg3.mono hbw
    have bh := bh2.mono hbw
    have g1 := bg.cell 1 rfl
    have gl := bg.lt
    have h1 := bh.cell 1 rfl
    have hl := bh.lt
    by_cases hlt : k < E.length
    · obtain ⟨b, o, rfl, hb, d0, d1⟩ := (hs3.mono hbw).int2_at hlt
      obtain ⟨b', o', rfl, hb', e0, e1⟩ := (hs4.mono hbw).int2_at hlt
      have hpn := pair_neq
      have hpg := pairGuard
      have t1 : (!(E[k].1 == E[k].1 && E[k].2 == E[k].2)) = false := by simp
      go_wp2_with fail
      refine wp_region_later (by kernel_rfl) (by kernel_rfl) ?_
      repeat (go_big_quiet_step (fail))
      refine wpQuiet_nil ?_
      rintro _ ⟨x, rfl⟩
      go_wp2_with fail
      go_roundw
      case rel => exact ⟨k + 1, by omega, by go_num, below_step hbw x.h⟩
      case measure => simp [intOf]; omega
    · go_wp2_with fail
      refine (awake_any _).mono ?_
      rintro e w4 ⟨rfl, hb4⟩
      go_wp2_with fail
      go_ret
      exact ⟨rfl, below_step (below_step hb3w hbw) hb4⟩

theorem walk_CfgGraph (c0 n0 : ByteArray) (s0 : Bool) (p0 : Int) (AV : Option Addr) (nV cV : Nat) (r0 : ByteArray) (AC : Option Addr) (cC : Nat) (code : List Ins) (w : World) (hm : code.length ≤ maxLen) (hs : Sl Lay.ins w AC code) :
    Calls Try.prog 3 #[.agg #[.string c0, .string n0, .bool s0, .int .i64 p0, .slice AV nV cV, .string r0, .slice AC code.length cC]] w fun e w' => e = .returned (.bool true) ∧ Below w.heap.size w w' := by
  by_cases hl : code.length ≤ 1024
  · by_cases hc : Closed code
    · have he := edgesTo_len code code.length
      refine cfgGraph_yes ((code.length : Int) + 2) (edgesTo code code.length) (by omega) c0 n0 s0 p0 AV nV cV r0 AC cC code w (fun W hb => ?_) (fun W hb => refGraph_any c0 n0 s0 p0 AV nV cV r0 AC cC code W hl (hs.mono hb) (Lib.hid hc))
      have := graph_any c0 n0 s0 p0 AV nV cV r0 AC cC code W hl (hs.mono hb) (Lib.hid hc)
      rw [edges_eq hc] at this
      exact this
    · exact cfgGraph_no 4 c0 n0 s0 p0 AV nV cV r0 AC cC code w (fun W hb => graph_open c0 n0 s0 p0 AV nV cV r0 AC cC code W hl (hs.mono hb) hc) (fun W hb => refGraph_open c0 n0 s0 p0 AV nV cV r0 AC cC code W hl (hs.mono hb) hc)
  · exact cfgGraph_no 3 c0 n0 s0 p0 AV nV cV r0 AC cC code w (fun W hb => graph_long c0 n0 s0 p0 AV nV cV r0 AC cC code W hm (by omega)) (fun W hb => refGraph_long c0 n0 s0 p0 AV nV cV r0 AC cC code W hm (by omega))
end Go.Proofs.Ythlpndgfphjlkaa
