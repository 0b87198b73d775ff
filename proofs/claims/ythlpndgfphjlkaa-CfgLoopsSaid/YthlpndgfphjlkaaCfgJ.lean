/-
  Chapter 14: the reference's Graph.
-/
import Derived.Test.YthlpndgfphjlkaaCfgI
namespace Go.Proofs.Ythlpndgfphjlkaa
open Go.RowKit
set_option linter.unusedVariables false

theorem edgeTy : ElemTy Try.prog 26 33 2 16 (.agg #[.int .i64 0, .int .i64 0]) := ⟨Try.underlying26, by kernel_rfl, rfl, by omega⟩
theorem Own.isSl {α : Type} {cells : α → List Value} {size base : Nat} {e : TypeId} {w : World} {v : Value} {l : List α} (h : Own cells size base e w v l) : ∃ A n c, v = .slice A n c := by
  rcases h.2 with ⟨rfl, _⟩ | ⟨g, cap, cur, rfl, _⟩
  · exact ⟨_, _, _, rfl⟩
  · exact ⟨_, _, _, rfl⟩
/-- The edges out of one instruction. -/
def arcsI (n i : Nat) (x : Ins) : List (Int × Int) := (allL n i x).map fun t => ((i : Int), t)
/-- The edges out of the first k instructions. -/
def edgesTo (code : List Ins) : Nat → List (Int × Int)
  | 0 => []
  | k + 1 => edgesTo code k ++ (match code[k]? with | some x => arcsI code.length k x | none => [])
theorem edgesTo_succ {code : List Ins} {k : Nat} (h : k < code.length) : edgesTo code (k + 1) = edgesTo code k ++ arcsI code.length k code[k] := by
  rw [edgesTo, List.getElem?_eq_getElem h]
theorem allL_len (n i : Nat) (x : Ins) : (allL n i x).length ≤ 3 := by
  unfold allL
  have := normL_len n i x
  split
  · have := putL_len (normL n i x) (raisedI n x)
    omega
  · omega
theorem edgesTo_len (code : List Ins) : ∀ k, (edgesTo code k).length ≤ 3 * k
  | 0 => by simp [edgesTo]
  | k + 1 => by
    rw [edgesTo, List.length_append]
    have := edgesTo_len code k
    split
    · rename_i x _
      have := allL_len code.length k x
      rw [arcsI, List.length_map]
      omega
    · simp; omega

/-- The graph that is made: its box and its row of edges. -/
structure InG (w : World) (fv : List Value) (bg : Nat) (n : Int) (l : List (Int × Int)) (wr : World) : Prop where
  bf : Box wr w.heap.size fv 25
  br : Box wr (w.heap.size + 1) [.int .i64 0, .slice none 0 0] 28
  hbg : w.heap.size + 1 < bg
  g : ∃ A m c, Box wr bg [.int .i64 n, .slice A m c] 28 ∧ Own cellsInt2 2 w.heap.size 33 wr (.slice A m c) l
  bel : Below w.heap.size w wr
theorem InG.mono {w : World} {fv : List Value} {bg : Nat} {n : Int} {l : List (Int × Int)} {wr wq : World} (h : InG w fv bg n l wr) (hb : Below wr.heap.size wr wq) : InG w fv bg n l wq := by
  obtain ⟨A, m, c, h1, h2⟩ := h.g
  exact ⟨h.bf.mono hb, h.br.mono hb, h.hbg, ⟨A, m, c, h1.mono hb, h2.mono hb⟩, below_step h.bel hb⟩
theorem InG.push {w : World} {fv : List Value} {bg : Nat} {n : Int} {l : List (Int × Int)} {wr W1 : World} (h : InG w fv bg n l wr) (hl : l.length ≤ 100000) (hbW : Below wr.heap.size wr W1) (y : Int × Int) :
    ∃ A m c, Box W1 bg [.int .i64 n, .slice A m c] 28 ∧ Box wr bg [.int .i64 n, .slice A m c] 28 ∧ ∃ v' w', (Builtin.append_ #[26, 26] 26 #[.slice A m c, .slice (some ⟨W1.heap.size, 0, none⟩) 1 1]).run Try.prog (W1.alloc (.cells #[.int .i64 y.1, .int .i64 y.2] 33)) = .ok v' w' ∧
      Box w' bg [.int .i64 n, .slice A m c] 28 ∧ (∃ B q d, v' = .slice B q d) ∧ Below w.heap.size wr w' ∧ InG w fv bg n (l ++ [y]) (w'.setCell ⟨bg, 1, none⟩ v') ∧ ∀ b0 u (L : List Int), Own cellsInt 1 b0 3 wr u L → Own cellsInt 1 b0 3 (w'.setCell ⟨bg, 1, none⟩ v') u L := by
  obtain ⟨A, m, c, hbs, hown⟩ := h.g
  have hsz := h.bel.size
  have hb1 : Below wr.heap.size wr (W1.alloc (.cells #[.int .i64 y.1, .int .i64 y.2] 33)) := bw_alloc hbW
  obtain ⟨v', w', hrun, ho', hb', hg', hsz'⟩ := run_push edgeTy cellsInt2_ok 26 (hown.mono hb1) y W1.heap.size 1 (cells_two_new _ _ _ _) (by unfold maxLen; omega) (by omega) (by have := hb1.size; omega)
  have hbs1 := hbs.mono hb1
  have hbs' := hbs1.grown hg' ((hown.mono hb1).ne_box hbs1 (by decide))
  have hf1 := h.bf.mono hb1
  have hf' := hf1.grown hg' ((hown.mono hb1).ne_box hf1 (by decide))
  have hr1 := h.br.mono hb1
  have hr' := hr1.grown hg' ((hown.mono hb1).ne_box hr1 (by decide))
  have hbg := h.hbg
  obtain ⟨A', n', c', rfl⟩ := ho'.isSl
  refine ⟨A, m, c, hbs.mono hbW, hbs, _, w', hrun, hbs', ⟨_, _, _, rfl⟩, (hb1.mono hsz).trans hb', ⟨?_, ?_, h.hbg, ⟨A', n', c', hbs'.set 1 _, ?_⟩, ?_⟩, fun b0 u L hL => ((hL.mono hb1).kept_other (hown.mono hb1) (by decide) hg').kept_box hbs' (by decide) (grown_set _ _ _ _)⟩
  · exact hf'.setOther (by simp; omega) _
  · exact hr'.setOther (by simp; omega) _
  · exact ho'.kept_box hbs' (by decide) (grown_set _ _ _ _)
  · exact ((h.bel.trans (hb1.mono hsz)).trans hb').setCell (by simp; omega) _

/-- A graph and no error. -/
def RetG (w' : World) (n : Int) (l : List (Int × Int)) (e : Ending) : Prop := ∃ A c, e = .returned (.tuple #[.agg #[.int .i64 n, .slice A l.length c], .int .i64 0]) ∧ l.length ≤ c ∧ Sl Lay.int2 w' A l
def noG (x : Int) : Ending := .returned (.tuple #[.agg #[.int .i64 0, .slice none 0 0], .int .i64 x])

theorem refGraph_long (c0 n0 : ByteArray) (s0 : Bool) (p0 : Int) (AV : Option Addr) (nV cV : Nat) (r0 : ByteArray) (AC : Option Addr) (cC : Nat) (code : List Ins) (w : World) (hm : code.length ≤ maxLen) (hl : 1024 < code.length) :
    Calls Try.prog 7 #[.agg #[.string c0, .string n0, .bool s0, .int .i64 p0, .slice AV nV cV, .string r0, .slice AC code.length cC]] w fun e w' => e = noG 3 ∧ Below w.heap.size w w' := by
  go_enter Try.func7, Try.ntmps7
  go_wp2_with fail
  refine (refClosed_long c0 n0 s0 p0 AV nV cV r0 AC cC code _ hm hl).mono ?_
  rintro e w1 ⟨rfl, hb1⟩
  have bx1 : Box w1 (w.heap.size + 1) [.int .i64 0, .slice none 0 0] 28 := (Box.at (w := w.alloc _) (by simp)).mono hb1
  have bl1 := bx1.lt
  have y0 := bx1.cell 0 rfl
  have y1 := bx1.cell 1 rfl
  have yf := fun i => bx1.free i
  obtain ⟨bx2, hg2⟩ := bx1.store2 (.int .i64 0) (.slice none 0 0)
  have q0 := bx2.cell 0 rfl
  have q1 := bx2.cell 1 rfl
  have hbw : Below w.heap.size w w1 := below_step (bw_alloc (bw_alloc (Below.refl _ _))) hb1
  have hbw2 := hbw.grown hg2 hbw.size (fun k hk => by injection hk with hk; omega)
  go_wp2_with fail
  refine bodyPost_ret (v := .tuple #[.agg #[.int .i64 0, .slice none 0 0], .int .i64 3]) (by simp [results, Try.results7, go_sem, q0, q1]) rfl ⟨rfl, hbw2⟩
set_option maxRecDepth 100000 in
set_option maxHeartbeats 2000000 in
theorem refGraph_open (c0 n0 : ByteArray) (s0 : Bool) (p0 : Int) (AV : Option Addr) (nV cV : Nat) (r0 : ByteArray) (AC : Option Addr) (cC : Nat) (code : List Ins) (w : World) (hl : code.length ≤ 1024) (hs : Sl Lay.ins w AC code) (hc : ¬ Closed code) :
    Calls Try.prog 7 #[.agg #[.string c0, .string n0, .bool s0, .int .i64 p0, .slice AV nV cV, .string r0, .slice AC code.length cC]] w fun e w' => e = noG 4 ∧ Below w.heap.size w w' := by
  have hb0 : Below w.heap.size w ((w.alloc (.cells #[.string c0, .string n0, .bool s0, .int .i64 p0, .slice AV nV cV, .string r0, .slice AC code.length cC] 25)).alloc (.cells #[.int .i64 0, .slice none 0 0] 28)) := (by repeat (first | assumption | exact Below.refl _ _ | apply bw_alloc | apply bw_drew | apply bw_drewN | apply bw_later | apply bw_step))
  go_enter Try.func7, Try.ntmps7
  go_wp2_with fail
  refine (refClosed_any c0 n0 s0 p0 AV nV cV r0 AC cC code _ hl (hs.mono hb0)).mono ?_
  rw [if_neg hc]
  rintro e w1 ⟨rfl, hb1⟩
  have bx1 : Box w1 (w.heap.size + 1) [.int .i64 0, .slice none 0 0] 28 := (Box.at (w := w.alloc _) (by simp)).mono hb1
  have bl1 := bx1.lt
  have y0 := bx1.cell 0 rfl
  have y1 := bx1.cell 1 rfl
  have yf := fun i => bx1.free i
  obtain ⟨bx2, hg2⟩ := bx1.store2 (.int .i64 0) (.slice none 0 0)
  have q0 := bx2.cell 0 rfl
  have q1 := bx2.cell 1 rfl
  have hbw : Below w.heap.size w w1 := below_step hb0 hb1
  have hbw2 := hbw.grown hg2 hbw.size (fun k hk => by injection hk with hk; omega)
  go_wp2_with fail
  refine bodyPost_ret (v := .tuple #[.agg #[.int .i64 0, .slice none 0 0], .int .i64 4]) (by simp [results, Try.results7, go_sem, q0, q1]) rfl ⟨rfl, hbw2⟩
set_option maxRecDepth 100000 in
set_option maxHeartbeats 2000000 in
theorem refGraph_any (c0 n0 : ByteArray) (s0 : Bool) (p0 : Int) (AV : Option Addr) (nV cV : Nat) (r0 : ByteArray) (AC : Option Addr) (cC : Nat) (code : List Ins) (w : World) (hl : code.length ≤ 1024) (hs : Sl Lay.ins w AC code) (hc : Hid (Closed code)) :
    Calls Try.prog 7 #[.agg #[.string c0, .string n0, .bool s0, .int .i64 p0, .slice AV nV cV, .string r0, .slice AC code.length cC]] w fun e w' => RetG w' ((code.length : Int) + 2) (edgesTo code code.length) e ∧ Below w.heap.size w w' := by
  have hb0 : Below w.heap.size w ((w.alloc (.cells #[.string c0, .string n0, .bool s0, .int .i64 p0, .slice AV nV cV, .string r0, .slice AC code.length cC] 25)).alloc (.cells #[.int .i64 0, .slice none 0 0] 28)) := (by repeat (first | assumption | exact Below.refl _ _ | apply bw_alloc | apply bw_drew | apply bw_drewN | apply bw_later | apply bw_step))
  go_enter Try.func7, Try.ntmps7
  go_wp2_with fail
  refine (refClosed_any c0 n0 s0 p0 AV nV cV r0 AC cC code _ hl (hs.mono hb0)).mono ?_
  rw [if_pos hc.out]
  rintro e w1 ⟨rfl, hb1⟩
  have bf1 : Box w1 w.heap.size [.string c0, .string n0, .bool s0, .int .i64 p0, .slice AV nV cV, .string r0, .slice AC code.length cC] 25 := ((Box.new w _ _).alloc _).mono hb1
  have br1 : Box w1 (w.heap.size + 1) [.int .i64 0, .slice none 0 0] 28 := (Box.at (w := w.alloc _) (by simp)).mono hb1
  have hbw : Below w.heap.size w w1 := below_step hb0 hb1
  have f6 := bf1.cell 6 rfl
  have fl := bf1.lt
  have rl := br1.lt
  have hmod : ((code.length : Int) + 2 + 9223372036854775808) % 18446744073709551616 - 9223372036854775808 = (code.length : Int) + 2 := by omega
  go_upto_region 6 with fail
  generalize hW : World.alloc _ _ = W0
  have hin : InG w [.string c0, .string n0, .bool s0, .int .i64 p0, .slice AV nV cV, .string r0, .slice AC code.length cC] w1.heap.size ((code.length : Int) + 2) (edgesTo code 0) W0 := by
    rw [← hW]
    exact ⟨bf1.alloc _, br1.alloc _, by omega, ⟨none, 0, 0, Box.new _ _ _, Own.nil⟩, bw_alloc hbw⟩
  clear hW
  go_loopw [6] (fun i wr => ∃ k : Nat, k ≤ code.length ∧ i = .int .i64 k ∧ InG w [.string c0, .string n0, .bool s0, .int .i64 p0, .slice AV nV cV, .string r0, .slice AC code.length cC] w1.heap.size ((code.length : Int) + 2) (edgesTo code k) wr) (fun i _ => code.length - (intOf i).toNat)
  case atStart => exact ⟨0, Nat.zero_le _, rfl, hin⟩
  case round =>
    clear hin f6 fl
    obtain ⟨k, hk, rfl, hin⟩ := hrel
    have f0 := hin.bf.cell 0 rfl
    have f1 := hin.bf.cell 1 rfl
    have f2 := hin.bf.cell 2 rfl
    have f3 := hin.bf.cell 3 rfl
    have f4 := hin.bf.cell 4 rfl
    have f5 := hin.bf.cell 5 rfl
    have f6 := hin.bf.cell 6 rfl
    have fl := hin.bf.lt
    by_cases hlt : k < code.length
    · have HC : Hid (ClosedAt code.length k code[k]) := hc.out.at hlt
      have HS : Hid (edgesTo code (k + 1) = edgesTo code k ++ arcsI code.length k code[k]) := edgesTo_succ hlt
      go_wp2_with fail
      refine (refNextAll_any c0 n0 s0 p0 AV nV cV r0 AC cC code k _ hl hlt (hs.mono hin.bel) HC).mono ?_
      rintro e w2 ⟨⟨v2, rfl, hv2⟩, hb2⟩
      have hL3 := allL_len code.length k code[k]
      have HA : Hid (arcsI code.length k code[k] = (allL code.length k code[k]).map fun t => ((k : Int), t)) := rfl
      obtain ⟨L, HL⟩ : ∃ L, Hid (L = allL code.length k code[k]) := ⟨_, Lib.hid rfl⟩
      rw [← HL.out] at hv2 hL3
      obtain ⟨A2, c2, rfl, hc2, hs2⟩ := hv2.sl (L := Lay.int) rfl (fun x => rfl)
      have hin2 := hin.mono hb2
      have hel := edgesTo_len code k
      clear f0 f1 f2 f3 f4 f5 f6 fl hs2
      go_wp2_with fail
      obtain ⟨wo, rfl⟩ : ∃ wo : World, wo = wr := ⟨_, rfl⟩
      go_loopw [8] (fun i wr => ∃ j : Nat, j ≤ L.length ∧ i = .int .i64 j ∧ InG w [.string c0, .string n0, .bool s0, .int .i64 p0, .slice AV nV cV, .string r0, .slice AC code.length cC] w1.heap.size ((code.length : Int) + 2) (edgesTo code k ++ (L.take j).map fun t => ((k : Int), t)) wr ∧ Own cellsInt 1 wo.heap.size 3 wr (.slice A2 L.length c2) L) (fun i _ => L.length - (intOf i).toNat)
      case atStart => exact ⟨0, Nat.zero_le _, rfl, by simpa using hin2, hv2⟩
      case round =>
        clear hin2 hv2
        obtain ⟨j, hj, rfl, hin3, hv3⟩ := hrel
        by_cases hjt : j < L.length
        · obtain ⟨A2', c2', hv, -, hs3⟩ := hv3.sl (L := Lay.int) rfl (fun x => rfl)
          injection hv with hA hn hcc
          subst hA hcc
          obtain ⟨b, o, rfl, hb, d0⟩ := hs3.int_at hjt
          have HT : Hid (L.take (j + 1) = L.take j ++ [L[j]]) := List.take_succ_eq_append_getElem hjt
          obtain ⟨A, m, c, hbx1, hbx2, v', w', hrun, hbx, ⟨B, q, d, rfl⟩, hbel, hnext, hkeep⟩ := hin3.push (W1 := wr.drew) (by rw [List.length_append, List.length_map, List.length_take]; omega) (bw_drew (Below.refl _ _)) ((k : Int), L[j])
          have y1 := hbx2.cell 1 rfl
          have yl := hbx2.lt
          have z1 := hbx.cell 1 rfl
          have zl := hbx.lt
          have zf := fun i => hbx.free i
          go_wp2_with fail
          refine wp_region_RW 9 (by kernel_rfl) (by kernel_rfl) ?_
          refine RW.chunk (f := 1) [0, 1, 2, 3, 4, 5, 6, 7] (by kernel_rfl) ?_
          ((simp only [pickOps, List.filterMap, List.getElem?_toArray, List.getElem?_cons_zero, List.getElem?_cons_succ]); (repeat (go_big_quiet_step (fail))); refine wpQuiet_nil ?_)
          refine RW.single 8 rfl (by kernel_rfl) (by omega) ?_
          intro K hK
          go_wp2_with fail
          refine hK _ _ (bw_alloc (Below.refl _ _)) ?_
          clear hK
          (refine RW.tail (by kernel_rfl) ?_; (simp only [List.drop_succ_cons, List.drop_zero]))
          go_wp2_with (at_builtin; refine wpList_appendRun rfl (.tmp 37) (.tmp 44) 26 rfl rfl rfl hrun ?_)
          go_roundw
          case rel => exact ⟨j + 1, by omega, by go_num, by rw [HT.out, List.map_append, ← List.append_assoc]; exact hnext, hkeep _ _ _ hv3⟩
          case measure => simp [intOf]; omega
        · obtain rfl : j = L.length := by omega
          rw [List.take_length] at hin3
          have hnx : InG w [.string c0, .string n0, .bool s0, .int .i64 p0, .slice AV nV cV, .string r0, .slice AC code.length cC] w1.heap.size ((code.length : Int) + 2) (edgesTo code (k + 1)) wr := by rw [HS.out, HA.out, ← HL.out]; exact hin3
          go_wp2_with fail
          go_roundw
          case rel => exact ⟨k + 1, by omega, by go_num, hnx⟩
          case measure => simp [intOf]; omega
    · obtain rfl : k = code.length := by omega
      obtain ⟨A, m, c, hbx, hown⟩ := hin.g
      have y0 := hbx.cell 0 rfl
      have y1 := hbx.cell 1 rfl
      have yl := hbx.lt
      have rl := hin.br.lt
      have r0 := hin.br.cell 0 rfl
      have r1 := hin.br.cell 1 rfl
      have rf := fun i => hin.br.free i
      obtain ⟨bx2, hg2⟩ := hin.br.store2 (.int .i64 ((code.length : Int) + 2)) (.slice A m c)
      have q0 := bx2.cell 0 rfl
      have q1 := bx2.cell 1 rfl
      have hbw2 := hin.bel.grown hg2 hin.bel.size (fun k hk => by injection hk with hk; omega)
      have hown2 := hown.kept_box hin.br (by decide) hg2
      obtain ⟨A3, c3, hv, hc3, hs3⟩ := hown2.sl (L := Lay.int2) rfl (fun x => rfl)
      injection hv with h1 h2 h3
      subst h1 h2 h3
      go_wp2_with fail
      refine bodyPost_ret (v := .tuple #[.agg #[.int .i64 ((code.length : Int) + 2), .slice A (edgesTo code code.length).length c], .int .i64 0]) (by simp [results, Try.results7, go_sem, q0, q1]) rfl ⟨⟨A, c, rfl, hc3, hs3⟩, hbw2⟩
end Go.Proofs.Ythlpndgfphjlkaa
