/-
  Joined (wip/merge.py): CfgX, CfgY, CfgZ, CfgV, CfgU.
-/
import Derived.Test.YthlpndgfphjlkaaCfgW
import Derived.Test.YthlpndgfphjlkaaDomL

namespace Go.Proofs.Ythlpndgfphjlkaa
open Go.RowKit
set_option linter.unusedVariables false

theorem edgesTo_len' (code : List Ins) : (edgesTo code code.length).length ≤ 3 * code.length := edgesTo_len code _
theorem gr_ok {code : List Ins} (hl : code.length ≤ 1024) (hc : Closed code) : GrOk (code.length + 2) (edgesTo code code.length) :=
  ⟨by omega, by have := edgesTo_len' code; omega, fun p hp => by
    have := edgesTo_in hc p hp
    rwa [show ((code.length + 2 : Nat) : Int) = (code.length : Int) + 2 by omega], edgesTo_asc code _⟩
theorem graph_n (c0 n0 : ByteArray) (s0 : Bool) (p0 : Int) (AV : Option Addr) (nV cV : Nat) (r0 : ByteArray) (AC : Option Addr) (cC : Nat) (code : List Ins) (w : World) (hl : code.length ≤ 1024) (hs : Sl Lay.ins w AC code) (hc : Hid (Closed code)) :
    Calls Try.prog 6 #[.agg #[.string c0, .string n0, .bool s0, .int .i64 p0, .slice AV nV cV, .string r0, .slice AC code.length cC]] w fun e w' => RetG w' ((code.length : Int) + 2) (edgesTo code code.length) e ∧ Below w.heap.size w w' := by
  have h := graph_any c0 n0 s0 p0 AV nV cV r0 AC cC code w hl hs hc
  rw [edges_eq hc.out] at h
  exact h
theorem reach_n (code : List Ins) (A B : Option Addr) (c cB : Nat) (w : World) (hl : code.length ≤ 1024) (hc : Hid (Closed code)) (hs : Sl Lay.int2 w A (edgesTo code code.length)) (hB : Sl Lay.int w B [(0 : Int)]) :
    Calls Try.prog 21 #[.agg #[.int .i64 ((code.length : Int) + 2), .slice A (edgesTo code code.length).length c], .slice B 1 cB] w fun e w' => RetReach (edgesTo code code.length) 0 w w' e ∧ Below w.heap.size w w' := by
  have h := reach_any (code.length + 2) 0 A B c cB (edgesTo code code.length) w (gr_ok hl hc.out) (by omega) hs hB
  rw [show ((code.length + 2 : Nat) : Int) = (code.length : Int) + 2 by omega] at h
  exact h
theorem loops_n (code : List Ins) (A : Option Addr) (c : Nat) (w : World) (hl : code.length ≤ 1024) (hc : Hid (Closed code)) (hs : Sl Lay.int2 w A (edgesTo code code.length)) :
    Calls Try.prog 22 #[.agg #[.int .i64 ((code.length : Int) + 2), .slice A (edgesTo code code.length).length c], .int .i64 0] w fun e w' => RetLoops (edgesTo code code.length) (code.length + 2) 0 w w' e ∧ Below w.heap.size w w' := by
  have h := loops_any (code.length + 2) 0 A c (edgesTo code code.length) w (gr_ok hl hc.out) (by omega) hs
  rw [show ((code.length + 2 : Nat) : Int) = (code.length : Int) + 2 by omega] at h
  exact h
/-- The node that receives what an instruction raises. -/
def hdlV (code : List Ins) (i : Int) : Int := if h : (0 ≤ i ∧ i.toNat < code.length) ∧ Closed code then hndI code.length (code[i.toNat]'h.1.2) else -1
theorem hdlV_yes {code : List Ins} {i : Nat} (h : i < code.length) (hc : Closed code) : hdlV code (i : Int) = hndI code.length code[i] := by
  unfold hdlV
  rw [dif_pos ⟨⟨by omega, by simpa using h⟩, hc⟩]
  simp
theorem hdlV_no {code : List Ins} {i : Int} (h : ¬ ((0 ≤ i ∧ i.toNat < code.length) ∧ Closed code)) : hdlV code i = -1 := by unfold hdlV; rw [dif_neg h]
set_option maxHeartbeats 1000000 in
theorem handlerX_any (c0 n0 : ByteArray) (s0 : Bool) (p0 : Int) (AV : Option Addr) (nV cV : Nat) (r0 : ByteArray) (AC : Option Addr) (cC : Nat) (code : List Ins) (i : Int) (w : World) (hl : code.length ≤ 1024) (hs : Sl Lay.ins w AC code) :
    Calls Try.prog 12 #[.agg #[.string c0, .string n0, .bool s0, .int .i64 p0, .slice AV nV cV, .string r0, .slice AC code.length cC], .int .i64 i] w fun e w' => e = .returned (.int .i64 (hdlV code i)) ∧ Below w.heap.size w w' := by
  have hb0 : Below w.heap.size w (w.alloc (.cells #[.string c0, .string n0, .bool s0, .int .i64 p0, .slice AV nV cV, .string r0, .slice AC code.length cC] 25)) := (by repeat (first | assumption | exact Below.refl _ _ | apply bw_alloc | apply bw_drew | apply bw_drewN | apply bw_later | apply bw_step))
  have bx0 := Box.new w [.string c0, .string n0, .bool s0, .int .i64 p0, .slice AV nV cV, .string r0, .slice AC code.length cC] 25
  by_cases h0 : i < 0
  · have HV : Hid (hdlV code i = -1) := hdlV_no (fun h => by omega)
    go_enter Try.func12, Try.ntmps12
    go_wp2_with fail
    go_ret
    exact ⟨by rw [HV.out]; rfl, hb0⟩
  · by_cases h1 : (code.length : Int) ≤ i
    · have HV : Hid (hdlV code i = -1) := hdlV_no (fun h => by omega)
      go_enter Try.func12, Try.ntmps12
      go_wp2_with fail
      go_ret
      exact ⟨by rw [HV.out]; rfl, hb0⟩
    · obtain ⟨k, rfl⟩ := Int.eq_ofNat_of_zero_le (Int.not_lt.1 h0)
      have hk : k < code.length := by omega
      have HCL := Lib.hid (closed_any c0 n0 s0 p0 AV nV cV r0 AC cC code _ hl (hs.mono hb0))
      by_cases hc : Closed code
      · have HV : Hid (hdlV code (k : Int) = hndI code.length code[k]) := hdlV_yes hk hc
        rw [decide_eq_true hc] at HCL
        clear hc
        go_enter Try.func12, Try.ntmps12
        go_wp2_with fail
        refine HCL.out.mono ?_
        rintro e w1 ⟨rfl, hb1⟩
        have bx1 := bx0.mono hb1
        have q0 := bx1.cell 0 rfl
        have q1 := bx1.cell 1 rfl
        have q2 := bx1.cell 2 rfl
        have q3 := bx1.cell 3 rfl
        have q4 := bx1.cell 4 rfl
        have q5 := bx1.cell 5 rfl
        have q6 := bx1.cell 6 rfl
        have ql := bx1.lt
        have hbw1 := below_step hb0 hb1
        go_wp2_with fail
        refine (handler_any c0 n0 s0 p0 AV nV cV r0 AC cC code k _ hl hk (hs.mono hbw1)).mono ?_
        rintro e w2 ⟨rfl, hb2⟩
        go_wp2_with fail
        go_ret
        exact ⟨by rw [HV.out]; rfl, below_step hbw1 hb2⟩
      · have HV : Hid (hdlV code (k : Int) = -1) := hdlV_no (fun h => hc h.2)
        rw [decide_eq_false hc] at HCL
        clear hc
        go_enter Try.func12, Try.ntmps12
        go_wp2_with fail
        refine HCL.out.mono ?_
        rintro e w1 ⟨rfl, hb1⟩
        go_wp2_with fail
        go_ret
        exact ⟨by rw [HV.out]; rfl, below_step hb0 hb1⟩
set_option maxHeartbeats 1000000 in
theorem refHandlerX_any (c0 n0 : ByteArray) (s0 : Bool) (p0 : Int) (AV : Option Addr) (nV cV : Nat) (r0 : ByteArray) (AC : Option Addr) (cC : Nat) (code : List Ins) (i : Int) (w : World) (hl : code.length ≤ 1024) (hs : Sl Lay.ins w AC code) :
    Calls Try.prog 13 #[.agg #[.string c0, .string n0, .bool s0, .int .i64 p0, .slice AV nV cV, .string r0, .slice AC code.length cC], .int .i64 i] w fun e w' => e = .returned (.int .i64 (hdlV code i)) ∧ Below w.heap.size w w' := by
  have hb0 : Below w.heap.size w (w.alloc (.cells #[.string c0, .string n0, .bool s0, .int .i64 p0, .slice AV nV cV, .string r0, .slice AC code.length cC] 25)) := (by repeat (first | assumption | exact Below.refl _ _ | apply bw_alloc | apply bw_drew | apply bw_drewN | apply bw_later | apply bw_step))
  have bx0 := Box.new w [.string c0, .string n0, .bool s0, .int .i64 p0, .slice AV nV cV, .string r0, .slice AC code.length cC] 25
  have HCL := Lib.hid (refClosed_any c0 n0 s0 p0 AV nV cV r0 AC cC code _ hl (hs.mono hb0))
  by_cases hc : Closed code
  · rw [if_pos hc] at HCL
    have HC := Lib.hid hc
    clear hc
    go_enter Try.func13, Try.ntmps13
    go_wp2_with fail
    refine HCL.out.mono ?_
    rintro e w1 ⟨rfl, hb1⟩
    have bx1 := bx0.mono hb1
    have q0 := bx1.cell 0 rfl
    have q6 := bx1.cell 6 rfl
    have ql := bx1.lt
    have hbw1 := below_step hb0 hb1
    clear HCL
    by_cases h0 : i < 0
    · have HV : Hid (hdlV code i = -1) := hdlV_no (fun h => by omega)
      go_wp2_with fail
      go_ret
      exact ⟨by rw [HV.out]; rfl, hbw1⟩
    · by_cases h1 : (code.length : Int) ≤ i
      · have HV : Hid (hdlV code i = -1) := hdlV_no (fun h => by omega)
        go_wp2_with fail
        go_ret
        exact ⟨by rw [HV.out]; rfl, hbw1⟩
      · obtain ⟨k, rfl⟩ := Int.eq_ofNat_of_zero_le (Int.not_lt.1 h0)
        have hk : k < code.length := by omega
        obtain ⟨b, o, A7, c7, rfl, hb, d0, d1, d2, d3, d4, d5, d6, d7, d8, d9, hc7, hs7⟩ := (hs.mono hbw1).ins_at hk
        have HV : Hid (hdlV code (k : Int) = hndI code.length code[k]) := hdlV_yes hk HC.out
        have hcl := (HC.out.at hk).hnd
        have HN : Hid (hndI code.length code[k] = if code[k].hnd = -1 then (code.length : Int) + 1 else code[k].hnd) := rfl
        by_cases hh : 0 ≤ code[k].hnd
        · have HN2 : Hid (hdlV code (k : Int) = code[k].hnd) := by show _ = _; rw [HV.out, HN.out, if_neg (by omega)]
          clear HV HN
          go_wp2_with fail
          go_ret
          exact ⟨by rw [HN2.out]; rfl, hbw1⟩
        · have HN2 : Hid (hdlV code (k : Int) = (code.length : Int) + 1) := by show _ = _; rw [HV.out, HN.out, if_pos (by omega)]
          clear HV HN
          go_wp2_with fail
          go_ret
          exact ⟨by rw [HN2.out]; (first | rfl | go_num), hbw1⟩
  · rw [if_neg hc] at HCL
    have HV : Hid (hdlV code i = -1) := hdlV_no (fun h => hc h.2)
    clear hc
    go_enter Try.func13, Try.ntmps13
    go_wp2_with fail
    refine HCL.out.mono ?_
    rintro e w1 ⟨rfl, hb1⟩
    go_wp2_with fail
    go_ret
    exact ⟨by rw [HV.out]; rfl, below_step hb0 hb1⟩
end Go.Proofs.Ythlpndgfphjlkaa

namespace Go.Proofs.Ythlpndgfphjlkaa
open Go.RowKit
set_option linter.unusedVariables false

set_option maxRecDepth 100000 in
set_option maxHeartbeats 2000000 in
theorem live_any (c0 n0 : ByteArray) (s0 : Bool) (p0 : Int) (AV : Option Addr) (nV cV : Nat) (r0 : ByteArray) (AC : Option Addr) (cC : Nat) (code : List Ins) (w : World) (hl : code.length ≤ 1024) (hs : Sl Lay.ins w AC code) (hc : Hid (Closed code)) :
    Calls Try.prog 9 #[.agg #[.string c0, .string n0, .bool s0, .int .i64 p0, .slice AV nV cV, .string r0, .slice AC code.length cC]] w fun e w' => RetW code none w' e ∧ Below w.heap.size w w' := by
  have hb0 : Below w.heap.size w (w.alloc (.cells #[.string c0, .string n0, .bool s0, .int .i64 p0, .slice AV nV cV, .string r0, .slice AC code.length cC] 25)) := (by repeat (first | assumption | exact Below.refl _ _ | apply bw_alloc | apply bw_drew | apply bw_drewN | apply bw_later | apply bw_step))
  have bx0 := Box.new w [.string c0, .string n0, .bool s0, .int .i64 p0, .slice AV nV cV, .string r0, .slice AC code.length cC] 25
  have hmk : ∀ W, (Instr.makeSlice 36 (.int .i64 (code.length : Nat)) (.int .i64 (code.length : Nat))).run Try.prog W = .ok (.slice (some ⟨W.heap.size, 0, none⟩) code.length code.length) (W.alloc (.cells (madeCells #[.bool false] code.length) 4)) := fun W => by
    have := boolTy.make .i64 .i64 code.length (by omega) (by omega) W
    rw [Nat.mul_one] at this
    exact this
  have HGN := Lib.hid (graph_n c0 n0 s0 p0 AV nV cV r0 AC cC code _ hl (hs.mono hb0) hc)
  obtain ⟨E, HE⟩ : ∃ E, Hid (E = edgesTo code code.length) := ⟨_, Lib.hid rfl⟩
  rw [← HE.out] at HGN
  go_enter Try.func9, Try.ntmps9
  go_wp2_with fail
  refine HGN.out.mono ?_
  rintro e w1 ⟨⟨A1, c1, rfl, hc1, hs1⟩, hb1⟩
  have bx1 := bx0.mono hb1
  have hbw1 := below_step hb0 hb1
  have q0 := bx1.cell 0 rfl
  have q6 := bx1.cell 6 rfl
  have ql := bx1.lt
  clear HGN bx0 hb0 hb1
  go_upto_region 5 with fail
  generalize hW : World.alloc _ _ = W2
  have bg2 : Box W2 w1.heap.size [.int .i64 ((code.length : Int) + 2), .slice A1 E.length c1] 28 := by rw [← hW]; exact (Box.new _ _ _).alloc _
  have ov2 : Own (fun x : Bool => [Value.bool x]) 1 w.heap.size 4 W2 (.slice (some ⟨w1.heap.size + 1, 0, none⟩) code.length code.length) (List.replicate code.length false) := by
    rw [← hW]
    exact Own.madeAt (c := Value.bool) (.bool false) _ code.length (List.replicate code.length false) (by simp) (by simp) (by have := hbw1.size; omega) (by unfold maxLen; omega) (by simp)
  have hb2 : Below w1.heap.size w1 W2 := by rw [← hW]; exact bw_alloc (bw_alloc (Below.refl _ _))
  have hz2 : W2.heap.size = w1.heap.size + 2 := by rw [← hW]; simp
  clear hW hmk
  have bx2 := bx1.mono hb2
  have hs2 := hs1.mono hb2
  have hbw2 := below_step hbw1 hb2
  have g0 := bg2.cell 0 rfl
  have g1 := bg2.cell 1 rfl
  have gl := bg2.lt
  clear q0 q6 ql bx1 hs1 hb2 hbw1
  have hb3 := bw_alloc (o := .cells #[.int .i64 0] 3) (Below.refl W2.heap.size W2)
  have hB3 : Sl Lay.int (W2.alloc (.cells #[.int .i64 0] 3)) (some ⟨W2.heap.size, 0, none⟩) [(0 : Int)] := by
    obtain ⟨A9, c9, e9, _, h9⟩ := (Own.lit (cells := cellsInt) (size := 1) (base := 0) (e := 3) W2 #[.int .i64 0] [(0 : Int)] (Nat.zero_le _) (by simp [maxLen]) rfl rfl).sl (L := Lay.int) rfl (fun _ => rfl)
    injection e9 with e91
    subst e91
    exact h9
  have HRE : Hid (Calls Try.prog 21 #[.agg #[.int .i64 ((code.length : Int) + 2), .slice A1 E.length c1], .slice (some ⟨W2.heap.size, 0, none⟩) 1 1] (W2.alloc (.cells #[.int .i64 0] 3)) fun e w' => RetReach E 0 (W2.alloc (.cells #[.int .i64 0] 3)) w' e ∧ Below (W2.alloc (.cells #[.int .i64 0] 3)).heap.size (W2.alloc (.cells #[.int .i64 0] 3)) w') := by
    have h := reach_n code A1 (some ⟨W2.heap.size, 0, none⟩) c1 1 (W2.alloc (.cells #[.int .i64 0] 3)) hl hc (by rw [← HE.out]; exact hs2.mono hb3) hB3
    rw [← HE.out] at h
    exact h
  clear hB3 hz2
  go_wp2_with fail
  refine HRE.out.mono ?_
  rintro e w4 ⟨⟨v4, R, rfl, ho4, hRl, hRr, hRm⟩, hb4⟩
  have hRR := Lib.hid hRr
  have hRM := Lib.hid hRm
  have hb24 : Below W2.heap.size W2 w4 := below_step hb3 hb4
  have bx4 := bx2.mono hb24
  have ov4 := ov2.mono hb24
  have hbw4 := below_step hbw2 hb24
  have hsz4 : W2.heap.size + 1 ≤ (W2.alloc (.cells #[.int .i64 0] 3)).heap.size := by simp
  obtain ⟨A5, c5, rfl, hc5, -⟩ := ho4.sl (L := Lay.int) rfl (fun x => rfl)
  have ho5 := ho4.base_le' (show W2.heap.size ≤ _ from by simp)
  have hgv : w1.heap.size + 1 < W2.heap.size := ov2.ge1.2
  clear HRE hRr hRm hb3 hb4 hb24 bx2 ov2 hbw2 bg2 g0 g1 gl hs2 ho4 hsz4
  go_wp2_with fail
  go_loopw [23] (fun v23 wr => ∃ (j : Nat) (S : List Bool), j ≤ R.length ∧ v23 = .int .i64 j ∧ Own (fun x : Bool => [Value.bool x]) 1 w.heap.size 4 wr (.slice (some ⟨w1.heap.size + 1, 0, none⟩) code.length code.length) S ∧ S.length = code.length ∧ Own cellsInt 1 W2.heap.size 3 wr (.slice A5 R.length c5) R ∧ Below w.heap.size w wr ∧
    Hid (∀ i, i < code.length → (S[i]? = some true ↔ (i : Int) ∈ R.take j))) (fun v23 _ => R.length - (intOf v23).toNat)
  case atStart => exact ⟨0, _, Nat.zero_le _, rfl, ov4, by simp, ho5, hbw4, fun i hi => by simp [hi]⟩
  case round =>
    clear ov4 ho5 hbw4
    obtain ⟨j, S, hj, rfl, ov, hSl, ho, hbel, HS⟩ := hrel
    by_cases hlt : j < R.length
    · obtain ⟨A5', c5', hv5, -, hs5⟩ := ho.sl (L := Lay.int) rfl (fun x => rfl)
      injection hv5 with e1 e2 e3
      subst e1 e3
      obtain ⟨b5, o5, rfl, hb5, d5⟩ := hs5.int_at hlt
      obtain ⟨x, hx⟩ : ∃ x : Nat, R[j] = (x : Int) := ⟨R[j].toNat, by have := (hRR.out _ (List.getElem_mem hlt)).1; omega⟩
      have hxb : x < 100000 := by have := (hRR.out _ (List.getElem_mem hlt)).2; omega
      have HT : Hid (R.take (j + 1) = R.take j ++ [(x : Int)]) := by show _ = _; rw [List.take_succ_eq_append_getElem hlt, hx]
      rw [hx] at d5
      have hjI : (j : Int) < (R.length : Int) := by omega
      have HJT := Lib.hid hlt
      have hjb : j < 200000 := by omega
      clear hx hs5 e2
      by_cases hxn : x < code.length
      · have hxI : (x : Int) < (code.length : Int) := by omega
        obtain ⟨q0, u0⟩ : ∃ q, wr.cell? ⟨w1.heap.size + 1, x, none⟩ = some q := ⟨_, ov.at1 hSl (i := x) (by omega)⟩
        have uf := ov.free1 hSl x
        have ul := ov.ge1.2
        have hg := grown_set wr (w1.heap.size + 1) x (.bool true)
        have ov' := ov.set1 hSl x true
        have ho' := ho.kept_other ov (by decide) hg
        have hbel' := hbel.setCell (p := ⟨w1.heap.size + 1, x, none⟩) ov.ge1.1 (.bool true)
        have HS2 : Hid (∀ i, i < code.length → ((S.set x true)[i]? = some true ↔ (i : Int) ∈ R.take (j + 1))) := fun i hi => by
          rw [HT.out, List.mem_append, List.mem_singleton, List.getElem?_set]
          by_cases e : x = i
          · subst e; simp [hSl, hi]
          · rw [if_neg e, HS.out i hi]
            exact ⟨Or.inl, fun h => h.elim id (fun h => absurd (show x = i by omega) e)⟩
        have HSL := Lib.hid hSl
        clear hg HS HT hSl ov ho hbel
        go_wp2_with fail
        go_roundw
        case rel => exact ⟨j + 1, _, HJT.out, by go_num, ov', by rw [List.length_set]; exact HSL.out, ho', hbel', HS2⟩
        case measure => have := HJT.out; simp only [intOf]; omega
      · have hxI : ¬ (x : Int) < (code.length : Int) := by omega
        have HS2 : Hid (∀ i, i < code.length → (S[i]? = some true ↔ (i : Int) ∈ R.take (j + 1))) := fun i hi => by
          rw [HT.out, List.mem_append, List.mem_singleton, HS.out i hi]
          exact ⟨Or.inl, fun h => h.elim id (fun h => by omega)⟩
        have HSL := Lib.hid hSl
        clear HS HT hSl
        go_wp2_with fail
        go_roundw
        case rel => exact ⟨j + 1, _, HJT.out, by go_num, ov, HSL.out, ho, hbel, HS2⟩
        case measure => have := HJT.out; simp only [intOf]; omega
    · obtain rfl : j = R.length := by omega
      rw [List.take_length] at HS
      obtain ⟨A6, c6, e6, hc6, hs6⟩ := ov.sl (L := Lay.bool) rfl (fun x => rfl)
      injection e6 with e1 e2 e3
      subst e1
      have HRT : Hid (RetW code none wr (.returned (.slice (some ⟨w1.heap.size + 1, 0, none⟩) code.length code.length))) :=
        ⟨_, _, S, rfl, hSl, Nat.le_refl _, hs6, fun i hi => by rw [HS.out i hi, hRM.out, ← HE.out]⟩
      clear HS hs6 e2 e3 hSl
      go_wp2_with fail
      go_ret
      exact ⟨HRT.out, hbel⟩
end Go.Proofs.Ythlpndgfphjlkaa

namespace Go.Proofs.Ythlpndgfphjlkaa
open Go.RowKit
set_option linter.unusedVariables false

theorem headsTo_cut (E : List (Int × Int)) (s n : Nat) : (headsTo E s (n + 2)).filter (fun h => decide (h < n)) = headsTo E s n := by
  have h0 : (headsTo E s n).filter (fun h => decide (h < n)) = headsTo E s n := by
    rw [List.filter_eq_self]
    intro h hh
    exact decide_eq_true (mem_headsTo.1 hh).1
  have h1 : (headsTo E s (n + 1)).filter (fun h => decide (h < n)) = headsTo E s n := by
    by_cases h : IsHead E s n
    · rw [headsTo_yes h, List.filter_append, h0]; simp
    · rw [headsTo_no h, h0]
  by_cases h : IsHead E s (n + 1)
  · rw [headsTo_yes h, List.filter_append, h1]; simp
  · rw [headsTo_no h, h1]
set_option maxRecDepth 100000 in
set_option maxHeartbeats 2000000 in
theorem heads_any (c0 n0 : ByteArray) (s0 : Bool) (p0 : Int) (AV : Option Addr) (nV cV : Nat) (r0 : ByteArray) (AC : Option Addr) (cC : Nat) (code : List Ins) (w : World) (hl : code.length ≤ 1024) (hs : Sl Lay.ins w AC code) (hc : Hid (Closed code)) :
    Calls Try.prog 10 #[.agg #[.string c0, .string n0, .bool s0, .int .i64 p0, .slice AV nV cV, .string r0, .slice AC code.length cC]] w fun e w' => RetOwn w w' ((headsTo (edgesTo code code.length) 0 code.length).map fun (x : Nat) => (x : Int)) e ∧ Below w.heap.size w w' := by
  have hb0 : Below w.heap.size w (w.alloc (.cells #[.string c0, .string n0, .bool s0, .int .i64 p0, .slice AV nV cV, .string r0, .slice AC code.length cC] 25)) := (by repeat (first | assumption | exact Below.refl _ _ | apply bw_alloc | apply bw_drew | apply bw_drewN | apply bw_later | apply bw_step))
  have bx0 := Box.new w [.string c0, .string n0, .bool s0, .int .i64 p0, .slice AV nV cV, .string r0, .slice AC code.length cC] 25
  have HGN := Lib.hid (graph_n c0 n0 s0 p0 AV nV cV r0 AC cC code _ hl (hs.mono hb0) hc)
  have HLN := Lib.hid (fun (A1 : Option Addr) (c1 : Nat) (W : World) (h : Sl Lay.int2 W A1 (edgesTo code code.length)) => loops_n code A1 c1 W hl hc h)
  have HCUT := Lib.hid (headsTo_cut (edgesTo code code.length) 0 code.length)
  obtain ⟨E, HE⟩ : ∃ E, Hid (E = edgesTo code code.length) := ⟨_, Lib.hid rfl⟩
  rw [← HE.out] at HGN HCUT ⊢
  rw [← HE.out] at HLN
  go_enter Try.func10, Try.ntmps10
  go_wp2_with fail
  refine HGN.out.mono ?_
  rintro e w1 ⟨⟨A1, c1, rfl, hc1, hs1⟩, hb1⟩
  have bx1 := bx0.mono hb1
  have hbw1 := below_step hb0 hb1
  clear HGN bx0 hb0 hb1
  have hb2 := bw_alloc (o := .cells #[.int .i64 ((code.length : Int) + 2), .slice A1 E.length c1] 28) (Below.refl w1.heap.size w1)
  have HLC := Lib.hid (HLN.out A1 c1 _ (hs1.mono hb2))
  have bx2 := bx1.mono hb2
  have hbw2 := below_step hbw1 hb2
  clear HLN hs1 bx1 hbw1 hb2
  go_wp2_with fail
  refine HLC.out.mono ?_
  rintro e w3 ⟨⟨v3, l, rfl, ho3, hlm⟩, hb3⟩
  obtain ⟨Q, HQ⟩ : ∃ Q, Hid (Q = headsTo E 0 (code.length + 2)) := ⟨_, Lib.hid rfl⟩
  rw [← HQ.out] at hlm HCUT
  have hQl : Q.length ≤ 2000 := by rw [HQ.out]; have := headsTo_len E 0 (code.length + 2); omega
  have HLQ : Hid (l.length = Q.length) := by show _ = _; have := congrArg List.length hlm; simpa using this
  have HLM := Lib.hid hlm
  have bx3 := bx2.mono hb3
  have hbw3 := below_step hbw2 hb3
  have hz3 := hb3.size
  clear HLC hlm bx2 hbw2 hb3
  obtain ⟨A4, c4, hv4, hc4, -⟩ := ho3.sl (L := Lay.plain 2 cellsLp (fun _ => rfl)) rfl (fun x => rfl)
  subst hv4
  go_wp2_with fail
  go_loopw [6, 25] (fun v6 v25 wr => ∃ (j : Nat), j ≤ l.length ∧ v25 = .int .i64 j ∧ Own cellsInt 1 w3.heap.size 3 wr v6 (((Q.take j).filter (fun h => decide (h < code.length))).map fun (x : Nat) => (x : Int)) ∧ Below w3.heap.size w3 wr) (fun _ v25 _ => l.length - (intOf v25).toNat)
  case atStart => exact ⟨0, Nat.zero_le _, rfl, Own.nil, Below.refl _ _⟩
  case round =>
    obtain ⟨j, hj, rfl, hown, hbel⟩ := hrel
    have bx4 := bx3.mono hbel
    have q0 := bx4.cell 0 rfl
    have q6 := bx4.cell 6 rfl
    have ql := bx4.lt
    by_cases hlt : j < l.length
    · obtain ⟨g, rfl, hg1, hg2, -⟩ := (ho3.mono hbel).form (by omega)
      obtain ⟨d0, d1⟩ := Own.at2 (c0 := fun x : Lp => .int .i64 x.1) (c1 := fun x : Lp => .slice x.2.1 x.2.2.1 x.2.2.2) (ho3.mono hbel) rfl hlt
      have hjQ : j < Q.length := by rw [← HLQ.out]; exact hlt
      have hx1 : l[j].1 = (Q[j] : Int) := by
        have h1 : (l.map (·.1))[j]? = (Q.map fun (x : Nat) => (x : Int))[j]? := by rw [HLM.out]
        rw [List.getElem?_map, List.getElem?_map, List.getElem?_eq_getElem hlt, List.getElem?_eq_getElem hjQ] at h1
        simpa using h1
      obtain ⟨x, hx⟩ : ∃ x, x = Q[j] := ⟨_, rfl⟩
      have HT : Hid (Q.take (j + 1) = Q.take j ++ [x]) := by show _ = _; rw [List.take_succ_eq_append_getElem hjQ, hx]
      have hxb : x < 5000 := by
        have hm : x ∈ Q := by rw [hx]; exact List.getElem_mem hjQ
        rw [HQ.out] at hm
        have := (mem_headsTo.1 hm).1
        omega
      rw [hx1, ← hx] at d0
      have hjI : (j : Int) < (l.length : Int) := by omega
      have HJT := Lib.hid hlt
      have hjb : j < 5000 := by have := HLQ.out; omega
      obtain ⟨A5, n5, c5, d2⟩ : ∃ A5 n5 c5, wr.cell? ⟨g, j * 2 + 1, none⟩ = some (.slice A5 n5 c5) := ⟨_, _, _, d1⟩
      clear hx1 hx d1
      go_upto_region 11 with fail
      have bl : Box (wr.alloc (.cells #[.int .i64 (x : Nat), .slice A5 n5 c5] 58)) wr.heap.size [.int .i64 (x : Nat), .slice A5 n5 c5] 58 := Box.new _ _ _
      have hb6 := bw_alloc (o := .cells #[.int .i64 (x : Nat), .slice A5 n5 c5] 58) (Below.refl wr.heap.size wr)
      have bx6 := bx4.mono hb6
      have hown6 := hown.mono hb6
      have hbel6 := hbel.trans (hb6.mono hbel.size)
      clear q0 q6 ql d0 d2 hb6 hown bx4 hbel
      generalize hW6 : wr.alloc (.cells #[.int .i64 (x : Nat), .slice A5 n5 c5] 58) = W6 at bl bx6 hown6 hbel6 ⊢
      clear hW6
      have q6 := bx6.cell 6 rfl
      have ql := bx6.lt
      have e0 := bl.cell 0 rfl
      have el := bl.lt
      by_cases hxn : x < code.length
      · have hxI : (x : Int) < (code.length : Int) := by omega
        have HF : Hid (((Q.take (j + 1)).filter (fun h => decide (h < code.length))).map (fun (x : Nat) => (x : Int)) = ((Q.take j).filter (fun h => decide (h < code.length))).map (fun (x : Nat) => (x : Int)) ++ [(x : Int)]) := by
          show _ = _
          rw [HT.out, List.filter_append, List.map_append]
          congr 1
          simp [hxn]
        have hfl : (((Q.take j).filter (fun h => decide (h < code.length))).map (fun (x : Nat) => (x : Int))).length ≤ 5000 := by
          rw [List.length_map]
          have := List.length_filter_le (fun h => decide (h < code.length)) (Q.take j)
          rw [List.length_take] at this
          omega
        have hb7 := bw_alloc (o := .cells #[.int .i64 (x : Nat)] 3) (Below.refl W6.heap.size W6)
        have hsz := hbel6.size
        obtain ⟨v', w', hrun, hown', hbl', hg', hz'⟩ := run_push (P := Try.prog) intTy cellsInt_ok 38 (hown6.mono hb7) (x : Int) W6.heap.size 1 (cells_one_new _ _ _) (by unfold maxLen; omega) (by omega) (by simp; omega)
        have hbel' := (hbel6.trans (hb7.mono hsz)).trans hbl'
        rw [← HF.out] at hown'
        clear hg' hown6 hbel6 hbl' HT HF
        go_wp2_with (at_builtin; refine wpList_appendRun rfl (.tmp 35) (.tmp 38) 38 rfl rfl rfl hrun ?_)
        go_roundw
        case rel => exact ⟨j + 1, HJT.out, by go_num, hown', hbel'⟩
        case measure => have := HJT.out; simp only [intOf]; omega
      · have hxI : ¬ (x : Int) < (code.length : Int) := by omega
        have HF : Hid ((Q.take (j + 1)).filter (fun h => decide (h < code.length)) = (Q.take j).filter (fun h => decide (h < code.length))) := by
          show _ = _
          rw [HT.out, List.filter_append]
          simp [hxn]
        rw [← HF.out] at hown6
        clear HT HF
        go_wp2_with fail
        go_roundw
        case rel => exact ⟨j + 1, HJT.out, by go_num, hown6, hbel6⟩
        case measure => have := HJT.out; simp only [intOf]; omega
    · obtain rfl : j = l.length := by omega
      rw [HLQ.out, List.take_length, HCUT.out] at hown
      have hown2 := hown.base_le' hbw3.size
      have hbw := hbw3.trans (hbel.mono hbw3.size)
      clear hown
      go_wp2_with fail
      go_ret
      exact ⟨⟨_, rfl, hown2⟩, hbw⟩
end Go.Proofs.Ythlpndgfphjlkaa

namespace Go.Proofs.Ythlpndgfphjlkaa
open Go.RowKit
set_option linter.unusedVariables false

theorem Sl.bool_at {w : World} {A : Option Addr} {l : List Bool} (h : Sl Lay.bool w A l) {i : Nat} (hi : i < l.length) : ∃ b o, A = some ⟨b, o, none⟩ ∧ b < w.heap.size ∧ w.cell? ⟨b, o + i, none⟩ = some (.bool l[i]) := by
  obtain ⟨b, o, vs, e, hlt, hr, hc⟩ := h i l[i] (List.getElem?_eq_getElem hi)
  simp only [Lay.bool, Lay.plain] at hr hc
  subst hr
  exact ⟨b, o, e, hlt, by have := hc 0 _ rfl; rwa [Nat.mul_one, Nat.add_zero] at this⟩
set_option maxHeartbeats 1000000 in
theorem refLive_any (c0 n0 : ByteArray) (s0 : Bool) (p0 : Int) (AV : Option Addr) (nV cV : Nat) (r0 : ByteArray) (AC : Option Addr) (cC : Nat) (code : List Ins) (w : World) (hl : code.length ≤ 1024) (hs : Sl Lay.ins w AC code) (hc : Hid (Closed code)) :
    Calls Try.prog 11 #[.agg #[.string c0, .string n0, .bool s0, .int .i64 p0, .slice AV nV cV, .string r0, .slice AC code.length cC]] w fun e w' => RetW code none w' e ∧ Below w.heap.size w w' := by
  have hb0 : Below w.heap.size w (w.alloc (.cells #[.string c0, .string n0, .bool s0, .int .i64 p0, .slice AV nV cV, .string r0, .slice AC code.length cC] 25)) := (by repeat (first | assumption | exact Below.refl _ _ | apply bw_alloc | apply bw_drew | apply bw_drewN | apply bw_later | apply bw_step))
  have bx0 := Box.new w [.string c0, .string n0, .bool s0, .int .i64 p0, .slice AV nV cV, .string r0, .slice AC code.length cC] 25
  have HCL := Lib.hid (refClosed_any c0 n0 s0 p0 AV nV cV r0 AC cC code _ hl (hs.mono hb0))
  rw [if_pos hc.out] at HCL
  have HWT := Lib.hid (fun W (h : Below w.heap.size w W) => without_any none c0 n0 s0 p0 AV nV cV r0 AC cC code W hl (fun h e => by cases e) (hs.mono h) hc)
  unfold dV at HWT
  go_enter Try.func11, Try.ntmps11
  go_wp2_with fail
  refine HCL.out.mono ?_
  rintro e w1 ⟨rfl, hb1⟩
  have bx1 := bx0.mono hb1
  have q0 := bx1.cell 0 rfl
  have q1 := bx1.cell 1 rfl
  have q2 := bx1.cell 2 rfl
  have q3 := bx1.cell 3 rfl
  have q4 := bx1.cell 4 rfl
  have q5 := bx1.cell 5 rfl
  have q6 := bx1.cell 6 rfl
  have ql := bx1.lt
  have hbw1 := below_step hb0 hb1
  go_wp2_with fail
  refine (HWT.out _ hbw1).mono ?_
  rintro e w2 ⟨⟨A2, c2, S, rfl, h1, h2, h3, h4⟩, hb2⟩
  have HRT : Hid (RetW code none w2 (.returned (.slice A2 code.length c2))) := ⟨A2, c2, S, rfl, h1, h2, h3, h4⟩
  clear h4 HWT HCL
  go_wp2_with fail
  go_ret
  exact ⟨HRT.out, below_step hbw1 hb2⟩
def castL (l : List Nat) : List Int := l.map fun (x : Nat) => (x : Int)
/-- The list within the round of h: h is there, or not. -/
noncomputable def outL (E : List (Int × Int)) (h : Nat) (b : Bool) : List Int := castL (headsTo E 0 h) ++ (if b then [(h : Int)] else [])
theorem outL_len (E : List (Int × Int)) (h : Nat) (b : Bool) : (outL E h b).length ≤ h + 1 := by
  unfold outL castL
  rw [List.length_append, List.length_map]
  have := headsTo_len E 0 h
  split <;> simp <;> omega
theorem put_out (E : List (Int × Int)) (h : Nat) (b : Bool) : putL (outL E h b) (h : Int) = outL E h true := by
  have hlt : ∀ (i : Nat) (hi : i < (castL (headsTo E 0 h)).length), (castL (headsTo E 0 h))[i] < (h : Int) := fun i hi => by
    have hi' : i < (headsTo E 0 h).length := by simpa [castL] using hi
    have := (mem_headsTo.1 (List.getElem_mem hi')).1
    simp only [castL, List.getElem_map]
    omega
  cases b with
  | false =>
    have e : outL E h false = castL (headsTo E 0 h) := by simp [outL]
    rw [e, putL_new (k := (castL (headsTo E 0 h)).length) (Nat.le_refl _) (fun i hi _ => hlt i hi) (fun h => absurd h (Nat.lt_irrefl _))]
    simp [outL]
  | true =>
    have e : outL E h true = castL (headsTo E 0 h) ++ [(h : Int)] := by simp [outL]
    rw [putL_same (k := (castL (headsTo E 0 h)).length)]
    · rw [e]; simp
    · intro i hi hik
      simp only [e]
      rw [List.getElem_append_left hik]
      exact hlt i hik
    · simp only [e]
      rw [List.getElem_append_right (Nat.le_refl _)]
      simp
/-- Do the instructions before t tell that h is a head? -/
def FndT (E : List (Int × Int)) (h t : Nat) : Prop := ∃ p, p < t ∧ ((p : Int), (h : Int)) ∈ E ∧ RA E 0 none p ∧ ¬ RA E 0 (some h) p
theorem fnd_head {code : List Ins} (h : Nat) : FndT (edgesTo code code.length) h code.length ↔ IsHead (edgesTo code code.length) 0 h := by
  constructor
  · rintro ⟨p, _, h1, h2, h3⟩
    exact ⟨p, h1, (dmB_iff _ _ _ _).2 ⟨.step h2 h1 (by simp), h2, h3⟩⟩
  · rintro ⟨p, h1, h2⟩
    obtain ⟨_, h3, h4⟩ := (dmB_iff _ _ _ _).1 h2
    have := edgesTo_from code code.length _ h1
    exact ⟨p, by dsimp only at this; omega, h1, h3, h4⟩
theorem fnd_succ {E : List (Int × Int)} {h t : Nat} : FndT E h (t + 1) ↔ FndT E h t ∨ (((t : Int), (h : Int)) ∈ E ∧ RA E 0 none t ∧ ¬ RA E 0 (some h) t) := by
  constructor
  · rintro ⟨p, h1, h2⟩
    by_cases e : p = t
    · subst e; exact Or.inr h2
    · exact Or.inl ⟨p, by omega, h2⟩
  · rintro (⟨p, h1, h2⟩ | h2)
    · exact ⟨p, by omega, h2⟩
    · exact ⟨t, by omega, h2⟩
set_option maxRecDepth 100000 in
set_option maxHeartbeats 4000000 in
theorem refHeads_any (c0 n0 : ByteArray) (s0 : Bool) (p0 : Int) (AV : Option Addr) (nV cV : Nat) (r0 : ByteArray) (AC : Option Addr) (cC : Nat) (code : List Ins) (w : World) (hl : code.length ≤ 1024) (hs : Sl Lay.ins w AC code) (hc : Hid (Closed code)) :
    Calls Try.prog 15 #[.agg #[.string c0, .string n0, .bool s0, .int .i64 p0, .slice AV nV cV, .string r0, .slice AC code.length cC]] w fun e w' => RetSl w' (castL (headsTo (edgesTo code code.length) 0 code.length)) e ∧ Below w.heap.size w w' := by
  have hb0 : Below w.heap.size w (w.alloc (.cells #[.string c0, .string n0, .bool s0, .int .i64 p0, .slice AV nV cV, .string r0, .slice AC code.length cC] 25)) := (by repeat (first | assumption | exact Below.refl _ _ | apply bw_alloc | apply bw_drew | apply bw_drewN | apply bw_later | apply bw_step))
  have bx0 := Box.new w [.string c0, .string n0, .bool s0, .int .i64 p0, .slice AV nV cV, .string r0, .slice AC code.length cC] 25
  have HCL := Lib.hid (refClosed_any c0 n0 s0 p0 AV nV cV r0 AC cC code _ hl (hs.mono hb0))
  rw [if_pos hc.out] at HCL
  have HWT := Lib.hid (fun W (h : Below w.heap.size w W) => without_any none c0 n0 s0 p0 AV nV cV r0 AC cC code W hl (fun h e => by cases e) (hs.mono h) hc)
  have HWH := Lib.hid (fun (x : Nat) (hx : x ≤ 1024) W (h : Below w.heap.size w W) => without_any (some x) c0 n0 s0 p0 AV nV cV r0 AC cC code W hl (fun h e => by injection e with e; omega) (hs.mono h) hc)
  unfold dV at HWT HWH
  have HFH := Lib.hid (fun h => fnd_head (code := code) h)
  obtain ⟨E, HE⟩ : ∃ E, Hid (E = edgesTo code code.length) := ⟨_, Lib.hid rfl⟩
  unfold RetW at HWT HWH
  rw [← HE.out] at HFH HWT HWH ⊢
  go_enter Try.func15, Try.ntmps15
  go_wp2_with fail
  refine HCL.out.mono ?_
  rintro e w1 ⟨rfl, hb1⟩
  have bx1 := bx0.mono hb1
  have q0 := bx1.cell 0 rfl
  have q1 := bx1.cell 1 rfl
  have q2 := bx1.cell 2 rfl
  have q3 := bx1.cell 3 rfl
  have q4 := bx1.cell 4 rfl
  have q5 := bx1.cell 5 rfl
  have q6 := bx1.cell 6 rfl
  have ql := bx1.lt
  have hbw1 := below_step hb0 hb1
  clear HCL bx0 hb0 hb1
  go_wp2_with fail
  refine (HWT.out _ hbw1).mono ?_
  rintro e w2 ⟨⟨A2, c2, S, rfl, hSl, hSc, hsS, hSm⟩, hb2⟩
  have HSM := Lib.hid hSm
  have HSLN := Lib.hid hSl
  have bx2 := bx1.mono hb2
  have hbw2 := below_step hbw1 hb2
  clear HWT bx1 hbw1 hb2 q0 q1 q2 q3 q4 q5 q6 ql hSm
  go_wp2_with fail
  go_loopw [4, 5] (fun v4 v5 wr => ∃ (h : Nat) (A : Option Addr) (c : Nat), h ≤ code.length ∧ v5 = .int .i64 h ∧ v4 = .slice A (castL (headsTo E 0 h)).length c ∧ (castL (headsTo E 0 h)).length ≤ c ∧ Sl Lay.int wr A (castL (headsTo E 0 h)) ∧ Below w2.heap.size w2 wr) (fun _ v5 _ => code.length - (intOf v5).toNat)
  case atStart => exact ⟨0, none, 0, Nat.zero_le _, rfl, rfl, Nat.le_refl _, Sl.nil, Below.refl _ _⟩
  case round =>
    obtain ⟨h, A4, c4, hh, rfl, rfl, hc4, hsO, hbel⟩ := hrel
    have bxr := bx2.mono hbel
    have q0 := bxr.cell 0 rfl
    have q1 := bxr.cell 1 rfl
    have q2 := bxr.cell 2 rfl
    have q3 := bxr.cell 3 rfl
    have q4 := bxr.cell 4 rfl
    have q5 := bxr.cell 5 rfl
    have q6 := bxr.cell 6 rfl
    have ql := bxr.lt
    by_cases hlt : h < code.length
    · have hhI : (h : Int) < (code.length : Int) := by omega
      have HLT := Lib.hid hlt
      have hbwr := below_step hbw2 hbel
      have HW1 := Lib.hid (HWH.out h (by omega) wr hbwr)
      have HO0 : Hid (castL (headsTo E 0 h) = outL E h false) := by show _ = _; simp [outL]
      rw [HO0.out] at hsO hc4 ⊢
      have hol := outL_len E h false
      clear hlt HWH
      go_wp2_with fail
      refine HW1.out.mono ?_
      rintro e w3 ⟨⟨A3, c3, T, rfl, hTl, hTc, hsT, hTm⟩, hb3⟩
      have HTM := Lib.hid hTm
      have HTLN := Lib.hid hTl
      have hbel3 := hbel.trans (hb3.mono hbel.size)
      have hsO3 := hsO.mono hb3
      clear HW1 hTm hsO hbel hb3 q0 q1 q2 q3 q4 q5 q6 ql bxr hbwr
      have hself := Below.refl w3.heap.size w3
      go_wp2_with fail
      obtain ⟨wo, rfl⟩ : ∃ wo : World, wo = wr := ⟨_, rfl⟩
      go_loopw [4, 7] (fun v4 v7 wr => ∃ (t : Nat) (b : Bool) (A : Option Addr) (c : Nat), t ≤ code.length ∧ v7 = .int .i64 t ∧ v4 = .slice A (outL E h b).length c ∧ (outL E h b).length ≤ c ∧ Sl Lay.int wr A (outL E h b) ∧ Hid (b = true ↔ FndT E h t) ∧ Below w3.heap.size w3 wr) (fun _ v7 _ => code.length - (intOf v7).toNat)
      case atStart => exact ⟨0, false, A4, c4, Nat.zero_le _, rfl, rfl, hc4, hsO3, ⟨fun h => (by cases h), fun ⟨p, hp, _⟩ => (by omega)⟩, hself⟩
      case round =>
        clear hsO3 hself hc4 hol
        obtain ⟨t, b, A5, c5, ht, rfl, rfl, hc5, hsO, HB, hb5⟩ := hrel
        have hol := outL_len E h b
        have bxt := bx2.mono (below_step hbel3 hb5)
        have q0 := bxt.cell 0 rfl
        have q1 := bxt.cell 1 rfl
        have q2 := bxt.cell 2 rfl
        have q3 := bxt.cell 3 rfl
        have q4 := bxt.cell 4 rfl
        have q5 := bxt.cell 5 rfl
        have q6 := bxt.cell 6 rfl
        have ql := bxt.lt
        by_cases htl : t < code.length
        · have htI : (t : Int) < (code.length : Int) := by omega
          have htb : t < 5000 := by omega
          have hSt : t < S.length := by rw [HSLN.out]; exact htl
          have hTt : t < T.length := by rw [HTLN.out]; exact htl
          obtain ⟨b2, o2, rfl, hb2, dS⟩ := ((hsS.mono hbel3).mono hb5).bool_at hSt
          obtain ⟨b3, o3, rfl, hb3, dT⟩ := (hsT.mono hb5).bool_at hTt
          have HTLT := Lib.hid htl
          have HLV : Hid (S[t] = true ↔ RA E 0 none t) := by
            rw [← HSM.out t htl, List.getElem?_eq_getElem hSt]; exact ⟨fun h => by rw [h], fun h => by injection h⟩
          have HRS : Hid (T[t] = true ↔ RA E 0 (some h) t) := by
            rw [← HTM.out t htl, List.getElem?_eq_getElem hTt]; exact ⟨fun h => by rw [h], fun h => by injection h⟩
          obtain ⟨sx, hsx⟩ : ∃ x, x = S[t] := ⟨_, rfl⟩
          obtain ⟨tx, htx⟩ : ∃ x, x = T[t] := ⟨_, rfl⟩
          rw [← hsx] at dS HLV
          rw [← htx] at dT HRS
          clear hsx htx
          cases sx with
          | false =>
            have HB2 : Hid (b = true ↔ FndT E h (t + 1)) := by
              rw [fnd_succ]
              exact ⟨fun h => Or.inl (HB.out.1 h), fun h => h.elim HB.out.2 (fun h => by have := HLV.out.2 h.2.1; cases this)⟩
            clear HB HLV HRS htl
            go_wp2_with fail
            go_roundw
            case rel => exact ⟨t + 1, b, A5, c5, HTLT.out, by go_num, rfl, hc5, hsO, HB2, hb5⟩
            case measure => have := HTLT.out; simp only [intOf]; omega
          | true =>
          cases tx with
          | true =>
            have HB2 : Hid (b = true ↔ FndT E h (t + 1)) := by
              rw [fnd_succ]
              exact ⟨fun h => Or.inl (HB.out.1 h), fun h => h.elim HB.out.2 (fun h => absurd (HRS.out.1 rfl) h.2.2)⟩
            clear HB HLV HRS htl
            go_wp2_with fail
            go_roundw
            case rel => exact ⟨t + 1, b, A5, c5, HTLT.out, by go_num, rfl, hc5, hsO, HB2, hb5⟩
            case measure => have := HTLT.out; simp only [intOf]; omega
          | false =>
            have HC : Hid (ClosedAt code.length t code[t]) := hc.out.at htl
            have hbwt := below_step (below_step hbw2 hbel3) hb5
            have hnx := refNextAll_any c0 n0 s0 p0 AV nV cV r0 AC cC code t wr hl htl (hs.mono hbwt) HC
            have hL3 := allL_len code.length t code[t]
            obtain ⟨L, HL⟩ : ∃ L, Hid (L = allL code.length t code[t]) := ⟨_, Lib.hid rfl⟩
            have HLE : Hid ((h : Int) ∈ L ↔ ((t : Int), (h : Int)) ∈ E) := by show _ ↔ _; rw [HL.out, HE.out, mem_edges_at htl]; exact Iff.rfl
            rw [← HL.out] at hL3
            have HNX : Hid (Calls Try.prog 20 #[.agg #[.string c0, .string n0, .bool s0, .int .i64 p0, .slice AV nV cV, .string r0, .slice AC code.length cC], .int .i64 (t : Nat)] wr fun e w' => RetOwn wr w' L e ∧ Below wr.heap.size wr w') := by show Calls _ _ _ _ _; rw [HL.out]; exact hnx
            clear hnx
            have HB2 : Hid (∀ b2 : Bool, (b2 = true ↔ b = true ∨ (h : Int) ∈ L) → (b2 = true ↔ FndT E h (t + 1))) := fun b2 hb2 => by
              rw [fnd_succ, hb2, HLE.out, HB.out]
              exact ⟨fun h => h.imp id (fun h => ⟨h, HLV.out.1 rfl, fun h2 => by have := HRS.out.2 h2; cases this⟩), fun h => h.imp id (fun h => h.1)⟩
            clear HB HLV HRS htl HL HC HLE
            go_wp2_with fail
            refine HNX.out.mono ?_
            rintro e w4 ⟨⟨v8, rfl, hv8⟩, hb4⟩
            obtain ⟨A8, c8, rfl, hc8, hs8⟩ := hv8.sl (L := Lay.int) rfl (fun x => rfl)
            have hsO4 := hsO.mono hb4
            have hb54 := hb5.trans (hb4.mono hb5.size)
            clear dS dT hb2 hb3 HNX hv8 hsO hb5 hb4 q0 q1 q2 q3 q4 q5 q6 ql bxt hbwt
            have hself := Below.refl w4.heap.size w4
            go_wp2_with fail
            go_loopw [4, 9] (fun v4 v9 wr2 => ∃ (k : Nat) (b2 : Bool) (A : Option Addr) (c : Nat), k ≤ L.length ∧ v9 = .int .i64 k ∧ v4 = .slice A (outL E h b2).length c ∧ (outL E h b2).length ≤ c ∧ Sl Lay.int wr2 A (outL E h b2) ∧ Hid (b2 = true ↔ b = true ∨ (h : Int) ∈ L.take k) ∧ Below w4.heap.size w4 wr2) (fun _ v9 _ => L.length - (intOf v9).toNat)
            case atStart => exact ⟨0, b, A5, c5, Nat.zero_le _, rfl, rfl, hc5, hsO4, by show _ ↔ _; simp, hself⟩
            case round =>
              clear hsO4 hself hc5 hol
              obtain ⟨k, b2, A6, c6, hk, rfl, rfl, hc6, hsO, HBK, hb6⟩ := hrel
              have hol := outL_len E h b2
              by_cases hkl : k < L.length
              · obtain ⟨b8, o8, rfl, hb8, d8⟩ := (hs8.mono hb6).int_at hkl
                have HKT := Lib.hid hkl
                obtain ⟨x, HT, d9⟩ : ∃ x : Int, Hid (L.take (k + 1) = L.take k ++ [x]) ∧ wr.cell? ⟨b8, o8 + k, none⟩ = some (.int .i64 x) := ⟨L[k], List.take_succ_eq_append_getElem hkl, d8⟩
                have hkI : (k : Int) < (L.length : Int) := by omega
                clear d8
                by_cases hxh : x = (h : Int)
                · subst hxh
                  have HBK2 : Hid (b = true ∨ (h : Int) ∈ L.take (k + 1)) := by
                    show _ ∨ _
                    rw [HT.out]; simp
                  have hput := put_any A6 c6 (outL E h b2) (h : Int) wr (by omega) hc6 hsO
                  rw [put_out] at hput
                  have HPT := Lib.hid hput
                  have HOT := Lib.hid (fun (hq : outL E h true = outL E h b2) => hq)
                  clear hput HBK HT
                  go_wp2_with fail
                  refine HPT.out.mono ?_
                  rintro e w7 ⟨⟨v7, rfl, hv7⟩ | ⟨rfl, hq⟩, hb7⟩
                  · obtain ⟨A7, c7, rfl, hc7, hs7⟩ := hv7.sl (L := Lay.int) rfl (fun x => rfl)
                    have hb67 := hb6.trans (hb7.mono hb6.size)
                    clear hv7
                    go_wp2_with fail
                    go_roundw
                    case rel => exact ⟨k + 1, true, A7, c7, HKT.out, by go_num, rfl, hc7, hs7, ⟨fun _ => HBK2.out, fun _ => rfl⟩, hb67⟩
                    case measure => have := HKT.out; simp only [intOf]; omega
                  · have HQ := Lib.hid hq
                    have hb67 := hb6.trans (hb7.mono hb6.size)
                    have hs7 := hsO.mono hb7
                    clear hq
                    go_wp2_with fail
                    go_roundw
                    case rel => exact ⟨k + 1, true, A6, c6, HKT.out, by go_num, by rw [HQ.out], by rw [HQ.out]; exact hc6, by rw [HQ.out]; exact hs7, ⟨fun _ => HBK2.out, fun _ => rfl⟩, hb67⟩
                    case measure => have := HKT.out; simp only [intOf]; omega
                · have te : (x == (h : Int)) = false := by simpa using hxh
                  have HBK2 : Hid (b2 = true ↔ b = true ∨ (h : Int) ∈ L.take (k + 1)) := by
                    rw [HT.out, List.mem_append, List.mem_singleton]
                    exact ⟨fun h => (HBK.out.1 h).imp id Or.inl, fun h => HBK.out.2 (h.imp id (fun h => h.elim id (fun h => absurd h.symm hxh)))⟩
                  clear HBK HT hxh
                  go_wp2_with fail
                  go_roundw
                  case rel => exact ⟨k + 1, b2, A6, c6, HKT.out, by go_num, rfl, hc6, hsO, HBK2, hb6⟩
                  case measure => have := HKT.out; simp only [intOf]; omega
              · obtain rfl : k = L.length := by omega
                rw [List.take_length] at HBK
                have HB3 := Lib.hid (HB2.out b2 HBK.out)
                have hb546 := hb54.trans (hb6.mono hb54.size)
                clear HBK hkl
                go_wp2_with fail
                go_roundw
                case rel => exact ⟨t + 1, b2, A6, c6, HTLT.out, by go_num, rfl, hc6, hsO, HB3, hb546⟩
                case measure => have := HTLT.out; simp only [intOf]; omega
        · obtain rfl : t = code.length := by omega
          have hbe := hbel3.trans (hb5.mono hbel3.size)
          have HH : Hid (castL (headsTo E 0 (h + 1)) = outL E h b) := by
            show _ = _
            have h1 := HB.out.trans (HFH.out h)
            cases b with
            | true => rw [headsTo_yes (h1.1 rfl)]; simp [outL, castL]
            | false => rw [headsTo_no (fun h2 => by have := h1.2 h2; cases this)]; simp [outL]
          clear htl HB
          go_wp2_with fail
          go_roundw
          case rel => exact ⟨h + 1, A5, c5, HLT.out, by go_num, by rw [HH.out], by rw [HH.out]; exact hc5, by rw [HH.out]; exact hsO, hbe⟩
          case measure => have := HLT.out; simp only [intOf]; omega
    · obtain rfl : h = code.length := by omega
      have hbw := hbw2.trans (hbel.mono hbw2.size)
      clear hlt
      go_wp2_with fail
      go_ret
      exact ⟨⟨A4, c4, rfl, hc4, hsO⟩, hbw⟩
end Go.Proofs.Ythlpndgfphjlkaa

namespace Go.Proofs.Ythlpndgfphjlkaa
open Go.RowKit
set_option linter.unusedVariables false

set_option maxHeartbeats 1000000 in
theorem sameInts12_any (A B : Option Addr) (cA cB : Nat) (l : List Int) (w : World) (hl : l.length ≤ 100000) (hA : Sl Lay.int w A l) (hB : Sl Lay.int w B l) :
    Calls Try.prog 25 #[.slice A l.length cA, .slice B l.length cB] w fun e w' => e = .returned (.bool true) ∧ Below w.heap.size w w' := by
  go_enter Try.func25, Try.ntmps25
  go_wp2_with fail
  go_loopw [5] (fun v5 wr => ∃ j : Nat, j ≤ l.length ∧ v5 = .int .i64 j ∧ Below w.heap.size w wr) (fun v5 _ => l.length - (intOf v5).toNat)
  case atStart => exact ⟨0, Nat.zero_le _, rfl, Below.refl _ _⟩
  case round =>
    obtain ⟨j, hj, rfl, hb⟩ := hrel
    by_cases hlt : j < l.length
    · obtain ⟨b1, o1, rfl, hb1, d1⟩ := (hA.mono hb).int_at hlt
      obtain ⟨b2, o2, rfl, hb2, d2⟩ := (hB.mono hb).int_at hlt
      have hjI : (j : Int) < (l.length : Int) := by omega
      have HJT := Lib.hid hlt
      obtain ⟨x, d3, d4⟩ : ∃ x : Int, wr.cell? ⟨b1, o1 + j, none⟩ = some (.int .i64 x) ∧ wr.cell? ⟨b2, o2 + j, none⟩ = some (.int .i64 x) := ⟨_, d1, d2⟩
      clear d1 d2
      go_wp2_with fail
      refine wp_region_later (by kernel_rfl) (by kernel_rfl) ?_
      repeat (go_big_quiet_step (fail))
      refine wpQuiet_nil ?_
      rintro _ ⟨z, rfl⟩
      have hbz := below_step hb z.h
      clear d3 d4 hb1 hb2
      generalize z.W = wz at *
      go_wp2_with fail
      go_roundw
      case rel => exact ⟨j + 1, HJT.out, by go_num, hbz⟩
      case measure => have := HJT.out; simp only [intOf]; omega
    · obtain rfl : j = l.length := by omega
      go_wp2_with fail
      go_ret
      exact ⟨rfl, hb⟩
theorem sameInts_any (A B : Option Addr) (cA cB : Nat) (l : List Int) (w : World) (hl : l.length ≤ 100000) (hA : Sl Lay.int w A l) (hB : Sl Lay.int w B l) :
    Calls Try.prog 14 #[.slice A l.length cA, .slice B l.length cB] w fun e w' => e = .returned (.bool true) ∧ Below w.heap.size w w' := by
  go_enter Try.func14, Try.ntmps14
  go_wp2_with fail
  refine (sameInts12_any A B cA cB l w hl hA hB).mono ?_
  rintro e w1 ⟨rfl, hb1⟩
  go_wp2_with fail
  go_ret
  exact ⟨rfl, hb1⟩
/-- A list of truth values, somewhere in memory. -/
def RetSB (w' : World) (S : List Bool) (e : Ending) : Prop := ∃ A c, e = .returned (.slice A S.length c) ∧ S.length ≤ c ∧ Sl Lay.bool w' A S
open Classical in
noncomputable def liveB (code : List Ins) : List Bool := (List.range code.length).map fun i => decide (RA (edgesTo code code.length) 0 none i)
theorem liveB_len (code : List Ins) : (liveB code).length = code.length := by simp [liveB]
theorem liveB_at {code : List Ins} {i : Nat} (h : i < (liveB code).length) : (liveB code)[i] = true ↔ RA (edgesTo code code.length) 0 none i := by
  have hi : i < code.length := by rw [liveB_len] at h; exact h
  have e : (liveB code)[i]? = some true ↔ RA (edgesTo code code.length) 0 none i := by
    unfold liveB
    rw [List.getElem?_map, List.getElem?_range hi]
    simp
  rw [← e, List.getElem?_eq_getElem h]
  exact ⟨fun h => by rw [h], fun h => by injection h⟩
theorem RetW.live {code : List Ins} {w' : World} {e : Ending} (h : RetW code none w' e) : RetSB w' (liveB code) e := by
  obtain ⟨A, c, S, rfl, h1, h2, h3, h4⟩ := h
  have e : S = liveB code := by
    apply List.ext_getElem
    · rw [h1, liveB_len]
    · intro i k1 k2
      have h5 := h4 i (by omega)
      rw [List.getElem?_eq_getElem k1] at h5
      rw [Bool.eq_iff_iff, liveB_at k2, ← h5]
      exact ⟨fun h => by rw [h], fun h => by injection h⟩
  subst e
  exact ⟨A, c, by rw [liveB_len], by rw [liveB_len]; exact h2, h3⟩
theorem RetOwn.sl {w w' : World} {l : List Int} {e : Ending} (h : RetOwn w w' l e) : RetSl w' l e := by
  obtain ⟨v, rfl, hv⟩ := h
  obtain ⟨A, c, rfl, hc, hs⟩ := hv.sl (L := Lay.int) rfl (fun x => rfl)
  exact ⟨A, c, rfl, hc, hs⟩
section
variable (c0 n0 : ByteArray) (s0 : Bool) (p0 : Int) (AV : Option Addr) (nV cV : Nat) (r0 : ByteArray) (AC : Option Addr) (cC : Nat) (code : List Ins)
set_option maxHeartbeats 1000000 in
theorem live_open (w : World) (hl : code.length ≤ 1024) (hs : Sl Lay.ins w AC code) (hc : ¬ Closed code) :
    Calls Try.prog 9 #[.agg #[.string c0, .string n0, .bool s0, .int .i64 p0, .slice AV nV cV, .string r0, .slice AC code.length cC]] w fun e w' => RetSB w' [] e ∧ Below w.heap.size w w' := by
  have hb0 : Below w.heap.size w (w.alloc (.cells #[.string c0, .string n0, .bool s0, .int .i64 p0, .slice AV nV cV, .string r0, .slice AC code.length cC] 25)) := (by repeat (first | assumption | exact Below.refl _ _ | apply bw_alloc | apply bw_drew | apply bw_drewN | apply bw_later | apply bw_step))
  have HG := Lib.hid (graph_open c0 n0 s0 p0 AV nV cV r0 AC cC code _ hl (hs.mono hb0) hc)
  unfold noG at HG
  go_enter Try.func9, Try.ntmps9
  go_wp2_with fail
  refine HG.out.mono ?_
  rintro e w1 ⟨rfl, hb1⟩
  have hbw := below_step hb0 hb1
  go_wp2_with fail
  go_ret
  exact ⟨⟨none, 0, rfl, Nat.le_refl _, Sl.nil⟩, bw_alloc hbw⟩
set_option maxHeartbeats 1000000 in
theorem heads_open (w : World) (hl : code.length ≤ 1024) (hs : Sl Lay.ins w AC code) (hc : ¬ Closed code) :
    Calls Try.prog 10 #[.agg #[.string c0, .string n0, .bool s0, .int .i64 p0, .slice AV nV cV, .string r0, .slice AC code.length cC]] w fun e w' => RetSl w' [] e ∧ Below w.heap.size w w' := by
  have hb0 : Below w.heap.size w (w.alloc (.cells #[.string c0, .string n0, .bool s0, .int .i64 p0, .slice AV nV cV, .string r0, .slice AC code.length cC] 25)) := (by repeat (first | assumption | exact Below.refl _ _ | apply bw_alloc | apply bw_drew | apply bw_drewN | apply bw_later | apply bw_step))
  have HG := Lib.hid (graph_open c0 n0 s0 p0 AV nV cV r0 AC cC code _ hl (hs.mono hb0) hc)
  unfold noG at HG
  go_enter Try.func10, Try.ntmps10
  go_wp2_with fail
  refine HG.out.mono ?_
  rintro e w1 ⟨rfl, hb1⟩
  have hbw := below_step hb0 hb1
  go_wp2_with fail
  go_ret
  exact ⟨⟨none, 0, rfl, Nat.le_refl _, Sl.nil⟩, bw_alloc hbw⟩
set_option maxHeartbeats 1000000 in
theorem refLive_open (w : World) (hl : code.length ≤ 1024) (hs : Sl Lay.ins w AC code) (hc : ¬ Closed code) :
    Calls Try.prog 11 #[.agg #[.string c0, .string n0, .bool s0, .int .i64 p0, .slice AV nV cV, .string r0, .slice AC code.length cC]] w fun e w' => RetSB w' [] e ∧ Below w.heap.size w w' := by
  have hb0 : Below w.heap.size w (w.alloc (.cells #[.string c0, .string n0, .bool s0, .int .i64 p0, .slice AV nV cV, .string r0, .slice AC code.length cC] 25)) := (by repeat (first | assumption | exact Below.refl _ _ | apply bw_alloc | apply bw_drew | apply bw_drewN | apply bw_later | apply bw_step))
  have HCL := Lib.hid (refClosed_any c0 n0 s0 p0 AV nV cV r0 AC cC code _ hl (hs.mono hb0))
  rw [if_neg hc] at HCL
  clear hc
  go_enter Try.func11, Try.ntmps11
  go_wp2_with fail
  refine HCL.out.mono ?_
  rintro e w1 ⟨rfl, hb1⟩
  have hbw := below_step hb0 hb1
  go_wp2_with fail
  go_ret
  exact ⟨⟨none, 0, rfl, Nat.le_refl _, Sl.nil⟩, hbw⟩
set_option maxHeartbeats 1000000 in
theorem refHeads_open (w : World) (hl : code.length ≤ 1024) (hs : Sl Lay.ins w AC code) (hc : ¬ Closed code) :
    Calls Try.prog 15 #[.agg #[.string c0, .string n0, .bool s0, .int .i64 p0, .slice AV nV cV, .string r0, .slice AC code.length cC]] w fun e w' => RetSl w' [] e ∧ Below w.heap.size w w' := by
  have hb0 : Below w.heap.size w (w.alloc (.cells #[.string c0, .string n0, .bool s0, .int .i64 p0, .slice AV nV cV, .string r0, .slice AC code.length cC] 25)) := (by repeat (first | assumption | exact Below.refl _ _ | apply bw_alloc | apply bw_drew | apply bw_drewN | apply bw_later | apply bw_step))
  have HCL := Lib.hid (refClosed_any c0 n0 s0 p0 AV nV cV r0 AC cC code _ hl (hs.mono hb0))
  rw [if_neg hc] at HCL
  clear hc
  go_enter Try.func15, Try.ntmps15
  go_wp2_with fail
  refine HCL.out.mono ?_
  rintro e w1 ⟨rfl, hb1⟩
  have hbw := below_step hb0 hb1
  go_wp2_with fail
  go_ret
  exact ⟨⟨none, 0, rfl, Nat.le_refl _, Sl.nil⟩, hbw⟩
end
end Go.Proofs.Ythlpndgfphjlkaa
