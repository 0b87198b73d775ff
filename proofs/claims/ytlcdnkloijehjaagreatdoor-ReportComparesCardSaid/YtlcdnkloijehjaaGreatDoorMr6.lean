/-
  Joined (wip/merge.py): RuA, RuB, RuC, RuD.
-/
import Derived.Test.YtlcdnkloijehjaaGreatDoorMr7
import Derived.Test.YtlcdnkloijehjaaGreatDoorMr1
import Derived.Test.YtlcdnkloijehjaaGreatDoorMr4

namespace Go.Proofs.YtlcdnkloijehjaaGreatDoor
open Go.RowKit
set_option linter.unusedVariables false

def kix (f : Fnd) : Nat := if 1 ≤ f.kind ∧ f.kind ≤ 4 then f.kind.toNat else 0
def bump (c : List Int) (i : Nat) : List Int := c.set i (c.getD i 0 + 1)
def cntF (l : List Fnd) : List Int := l.foldl (fun c f => bump c (kix f)) [0, 0, 0, 0, 0]
theorem kix_lt (f : Fnd) : kix f < 5 := by unfold kix; split <;> omega
theorem bump_len (c : List Int) (i : Nat) : (bump c i).length = c.length := by unfold bump; rw [List.length_set]
theorem cntF_take {l : List Fnd} {k : Nat} (h : k < l.length) : cntF (l.take (k + 1)) = bump (cntF (l.take k)) (kix l[k]) := by
  unfold cntF
  rw [List.take_succ_eq_append_getElem h, List.foldl_append]
  rfl
theorem foldl_bump : ∀ (l : List Fnd) (c : List Int) (m : Int), c.length = 5 → 0 ≤ m → (∀ x ∈ c, 0 ≤ x ∧ x ≤ m) → (l.foldl (fun c f => bump c (kix f)) c).length = 5 ∧ ∀ x ∈ l.foldl (fun c f => bump c (kix f)) c, 0 ≤ x ∧ x ≤ m + l.length
  | [], c, m, h1, h0, h2 => ⟨h1, fun x hx => by have := h2 x hx; simp; exact this⟩
  | f :: l, c, m, h1, h0, h2 => by
    have h3 := kix_lt f
    have hg : 0 ≤ c.getD (kix f) 0 ∧ c.getD (kix f) 0 ≤ m := by
      rw [List.getD_eq_getElem?_getD, List.getElem?_eq_getElem (by omega)]
      exact h2 _ (List.getElem_mem _)
    obtain ⟨e1, e2⟩ := foldl_bump l (bump c (kix f)) (m + 1) (by rw [bump_len, h1]) (by omega) (fun x hx => by
      unfold bump at hx
      rcases List.mem_or_eq_of_mem_set hx with hx | rfl
      · have := h2 x hx; omega
      · omega)
    refine ⟨e1, fun x hx => ?_⟩
    have := e2 x hx
    rw [List.length_cons]
    omega
theorem cntF_len (l : List Fnd) : (cntF l).length = 5 := (foldl_bump l [0, 0, 0, 0, 0] 0 rfl (by omega) (by simp)).1
theorem cntF_at (l : List Fnd) (k i : Nat) (hi : i < (cntF (l.take k)).length) : 0 ≤ (cntF (l.take k))[i] ∧ (cntF (l.take k))[i] ≤ k := by
  have h := (foldl_bump (l.take k) [0, 0, 0, 0, 0] 0 rfl (by omega) (by simp)).2 _ (List.getElem_mem hi)
  have h2 : (l.take k).length ≤ k := by rw [List.length_take]; omega
  exact ⟨h.1, by have := h.2; omega⟩
theorem bump_at {c : List Int} {i : Nat} (hi : i < c.length) : bump c i = c.set i (c[i] + 1) := by
  unfold bump
  rw [List.getD_eq_getElem?_getD, List.getElem?_eq_getElem hi]
  rfl

/-! ### The closed example -/
def rptW : Rpt := ⟨[], [], [2]⟩
def txtW : ByteArray := ⟨#[111, 112, 101, 110, 32, 48, 10, 104, 105, 100, 100, 101, 110, 32, 48, 10, 117, 110, 117, 115, 101, 100, 32, 49, 10, 105, 110, 100, 101, 120, 32, 50, 10]⟩
theorem rptW_E : rptE rptW = 0 := by decide
theorem dg_one' (u : Nat) (h : u < 10) : dg (u : Int) = [48 + UInt8.ofNat u] := by rw [dg_nat, dig_first h]
theorem rptW_T : bsOf (rptT rptW) = txtW := by
  have h0 : dg ((0 : Nat) : Int) = [48] := dg_one' 0 (by omega)
  have h1 : dg ((1 : Nat) : Int) = [49] := dg_one' 1 (by omega)
  have h2 : dg (2 : Int) = [50] := dg_one' 2 (by omega)
  unfold rptT rptW
  simp only [List.flatMap_nil, List.flatMap_cons, List.length_nil, List.length_cons, headL, idxT, h2]
  rw [show dg ((0 : Nat) : Int) = [48] from h0, show dg (((0 + 1 : Nat)) : Int) = [49] from h1]
  rfl
theorem txtW_par : parR txtW = (rptW, 0, 0) := by
  rw [← rptW_T]
  refine parR_back rptW_E ?_
  have := congrArg ByteArray.size rptW_T
  rw [bsOf_size] at this
  rw [this]
  decide
theorem rptW_txt : txtR rptW = (txtW, 0) := by
  unfold txtR
  rw [if_neg (by rw [rptW_E]; simp), rptW_T]
end Go.Proofs.YtlcdnkloijehjaaGreatDoor

namespace Go.Proofs.YtlcdnkloijehjaaGreatDoor
open Go.RowKit
set_option linter.unusedVariables false

/-- Five numbers in a row of the call's own. -/
def RetC (w w' : World) (l : List Int) (e : Ending) : Prop := ∃ g, e = .returned (.slice (some ⟨g, 0, none⟩) 5 5) ∧ Own cellsInt 1 w.heap.size 3 w' (.slice (some ⟨g, 0, none⟩) 5 5) l
theorem kix_at (f : Fnd) : (1 ≤ f.kind ∧ f.kind ≤ 4 → (kix f : Int) = f.kind) ∧ (¬ (1 ≤ f.kind ∧ f.kind ≤ 4) → kix f = 0) := by
  unfold kix
  constructor
  · intro h; rw [if_pos h]; omega
  · intro h; rw [if_neg h]
/-- One more: what is read, and what is left. -/
theorem Own.bumped {base g : Nat} {w : World} {l : List Fnd} {k : Nat} (h : Own (fun x : Int => [Value.int .i64 x]) 1 base 3 w (.slice (some ⟨g, 0, none⟩) 5 5) (cntF (l.take k))) (hk : k < l.length) (hl : l.length ≤ 9223372036854775806) :
    ∃ v : Int, 0 ≤ v ∧ v ≤ 9223372036854775806 ∧ w.cell? ⟨g, kix l[k], none⟩ = some (.int .i64 v) ∧ w.frozen? ⟨g, kix l[k], none⟩ = false ∧ g < w.heap.size ∧ base ≤ g ∧ Own (fun x : Int => [Value.int .i64 x]) 1 base 3 (w.setCell ⟨g, kix l[k], none⟩ (.int .i64 (v + 1))) (.slice (some ⟨g, 0, none⟩) 5 5) (cntF (l.take (k + 1))) := by
  have h5 := cntF_len (l.take k)
  have hi : kix l[k] < (cntF (l.take k)).length := by have := kix_lt l[k]; omega
  have hb := cntF_at l k (kix l[k]) hi
  refine ⟨(cntF (l.take k))[kix l[k]], hb.1, by omega, Own.at1 (c := Value.int .i64) h h5 hi, Own.free1 (c := Value.int .i64) h h5 _, h.ge1.2, h.ge1.1, ?_⟩
  rw [cntF_take hk, bump_at hi]
  exact Own.set1 (c := Value.int .i64) h h5 _ _
set_option maxHeartbeats 4000000 in
set_option maxRecDepth 100000 in
theorem count_any (l : List Fnd) (A0 A1 A2 : Option Addr) (c0 n1 c1 n2 c2 : Nat) (w : World) (hl : l.length ≤ 9223372036854775806) (hs : Sl Lay.fnd w A0 l) :
    Calls Tryz.prog 9 #[.agg #[.slice A0 l.length c0, .slice A1 n1 c1, .slice A2 n2 c2]] w fun e w' => RetC w w' (cntF l) e ∧ Below w.heap.size w w' := by
  have bx0 := Box.new w [.slice A0 l.length c0, .slice A1 n1 c1, .slice A2 n2 c2] 26
  have hb0 : Below w.heap.size w (w.alloc (.cells #[.slice A0 l.length c0, .slice A1 n1 c1, .slice A2 n2 c2] 26)) := (by repeat (first | assumption | exact Below.refl _ _ | apply bw_alloc | apply bw_drew | apply bw_drewN | apply bw_later | apply bw_step))
  have hmk : ∀ W, (Instr.makeSlice 24 (.int .i64 5) (.int .i64 5)).run Tryz.prog W = .ok (.slice (some ⟨W.heap.size, 0, none⟩) 5 5) (W.alloc (.cells (madeCells #[.int .i64 0] 5) 3)) := fun W => intsTy.make .i64 .i64 5 (by omega) (by omega) W
  go_enter Tryz.func9, Tryz.ntmps9
  go_upto_region 2 with fail
  generalize hW : World.alloc (World.alloc _ _) _ = W1
  have bx1 : Box W1 w.heap.size [.slice A0 l.length c0, .slice A1 n1 c1, .slice A2 n2 c2] 26 := by rw [← hW]; exact bx0.alloc _
  have ov1 : Own (fun x : Int => [Value.int .i64 x]) 1 w.heap.size 3 W1 (.slice (some ⟨w.heap.size + 1, 0, none⟩) 5 5) (cntF (l.take 0)) := by
    rw [← hW]
    exact Own.madeR (c := Value.int .i64) (.int .i64 0) _ 5 _ (by simp) rfl (by omega) (by unfold maxLen; omega) rfl
  have hb1 : Below w.heap.size w W1 := by rw [← hW]; exact bw_alloc hb0
  clear hW hmk bx0 hb0
  have p0 := bx1.cell 0 rfl
  have pl := bx1.lt
  go_wp2_with fail
  go_loopw [10] (fun i wr => ∃ k : Nat, k ≤ l.length ∧ i = .int .i64 k ∧ Own (fun x : Int => [Value.int .i64 x]) 1 w.heap.size 3 wr (.slice (some ⟨w.heap.size + 1, 0, none⟩) 5 5) (cntF (l.take k)) ∧ Below w.heap.size w wr) (fun i _ => l.length - (intOf i).toNat)
  case atStart => exact ⟨0, Nat.zero_le _, rfl, ov1, hb1⟩
  case round =>
    clear bx1 ov1 hb1 p0 pl
    obtain ⟨k, hk, rfl, ov, hbw⟩ := hrel
    by_cases hlt : k < l.length
    · obtain ⟨b, o, A3, c3, rfl, h1, d0, d1, d2, d3, d4, d5, hc3, hs3⟩ := (hs.mono hbw).fnd_at hlt
      have hbf : Below wr.heap.size wr (wr.alloc (.cells #[.int .i64 l[k].kind, .string l[k].plc.cls, .string l[k].plc.mth, .int .i64 l[k].plc.ins, .string l[k].what, .slice A3 l[k].path.length c3] 46)) := by exact (by repeat (first | assumption | exact Below.refl _ _ | apply bw_alloc | apply bw_drew | apply bw_drewN | apply bw_later | apply bw_step))
      obtain ⟨v, hv0, hv1, g0, gf, gl, gb, ov2⟩ := (ov.mono hbf).bumped hlt hl
      have hbw2 := bw_setCell (p := ⟨w.heap.size + 1, kix l[k], none⟩) (u := .int .i64 (v + 1)) (below_step hbw hbf) gb
      obtain ⟨HK1, HK0⟩ := kix_at l[k]
      generalize kix l[k] = x at *
      generalize l[k].kind = q at *
      by_cases hq : 1 ≤ q ∧ q ≤ 4
      · have e1 := HK1 hq
        subst e1
        have q1 := hq.1
        have q4 := hq.2
        have hx5 : x < 5 := by omega
        have hx5' : (x : Int) < 5 := by omega
        clear HK1 HK0 hq ov
        go_wp2_with fail
        go_roundw
        case rel => exact ⟨k + 1, by omega, by go_num, ov2, hbw2⟩
        case measure => simp [intOf]; omega
      · have e0 := HK0 hq
        subst e0
        clear HK1 HK0 ov
        by_cases q1 : 1 ≤ q
        · have q4 : ¬ q ≤ 4 := fun h => hq ⟨q1, h⟩
          clear hq
          go_wp2_with fail
          go_roundw
          case rel => exact ⟨k + 1, by omega, by go_num, ov2, hbw2⟩
          case measure => simp [intOf]; omega
        · clear hq
          go_wp2_with fail
          go_roundw
          case rel => exact ⟨k + 1, by omega, by go_num, ov2, hbw2⟩
          case measure => simp [intOf]; omega
    · obtain rfl : k = l.length := by omega
      rw [List.take_length] at ov
      go_wp2_with fail
      go_ret
      exact ⟨⟨_, rfl, ov⟩, hbw⟩
set_option maxHeartbeats 4000000 in
set_option maxRecDepth 100000 in
theorem refCnt_any (l : List Fnd) (A0 A1 A2 : Option Addr) (c0 n1 c1 n2 c2 : Nat) (w : World) (hl : l.length ≤ 9223372036854775806) (hs : Sl Lay.fnd w A0 l) :
    Calls Tryz.prog 10 #[.agg #[.slice A0 l.length c0, .slice A1 n1 c1, .slice A2 n2 c2]] w fun e w' => RetC w w' (cntF l) e ∧ Below w.heap.size w w' := by
  have bx0 := Box.new w [.slice A0 l.length c0, .slice A1 n1 c1, .slice A2 n2 c2] 26
  have hb0 : Below w.heap.size w (w.alloc (.cells #[.slice A0 l.length c0, .slice A1 n1 c1, .slice A2 n2 c2] 26)) := (by repeat (first | assumption | exact Below.refl _ _ | apply bw_alloc | apply bw_drew | apply bw_drewN | apply bw_later | apply bw_step))
  have hmk : ∀ W, (Instr.makeSlice 24 (.int .i64 5) (.int .i64 5)).run Tryz.prog W = .ok (.slice (some ⟨W.heap.size, 0, none⟩) 5 5) (W.alloc (.cells (madeCells #[.int .i64 0] 5) 3)) := fun W => intsTy.make .i64 .i64 5 (by omega) (by omega) W
  go_enter Tryz.func10, Tryz.ntmps10
  go_upto_region 2 with fail
  generalize hW : World.alloc (World.alloc _ _) _ = W1
  have bx1 : Box W1 w.heap.size [.slice A0 l.length c0, .slice A1 n1 c1, .slice A2 n2 c2] 26 := by rw [← hW]; exact bx0.alloc _
  have ov1 : Own (fun x : Int => [Value.int .i64 x]) 1 w.heap.size 3 W1 (.slice (some ⟨w.heap.size + 1, 0, none⟩) 5 5) (cntF (l.take 0)) := by
    rw [← hW]
    exact Own.madeR (c := Value.int .i64) (.int .i64 0) _ 5 _ (by simp) rfl (by omega) (by unfold maxLen; omega) rfl
  have hb1 : Below w.heap.size w W1 := by rw [← hW]; exact bw_alloc hb0
  clear hW hmk bx0 hb0
  go_wp2_with fail
  go_loopw [4] (fun i wr => ∃ k : Nat, k ≤ l.length ∧ i = .int .i64 k ∧ Box wr w.heap.size [.slice A0 l.length c0, .slice A1 n1 c1, .slice A2 n2 c2] 26 ∧ Own (fun x : Int => [Value.int .i64 x]) 1 w.heap.size 3 wr (.slice (some ⟨w.heap.size + 1, 0, none⟩) 5 5) (cntF (l.take k)) ∧ Below w.heap.size w wr) (fun i _ => l.length - (intOf i).toNat)
  case atStart => exact ⟨0, Nat.zero_le _, rfl, bx1, ov1, hb1⟩
  case round =>
    clear bx1 ov1 hb1
    obtain ⟨k, hk, rfl, hbx, ov, hbw⟩ := hrel
    have p0 := hbx.cell 0 rfl
    have pl := hbx.lt
    by_cases hlt : k < l.length
    · obtain ⟨b, o, A3, c3, rfl, h1, d0, d1, d2, d3, d4, d5, hc3, hs3⟩ := (hs.mono hbw).fnd_at hlt
      obtain ⟨v, hv0, hv1, g0, gf, gl, gb, ov2⟩ := ov.bumped hlt hl
      have hbw2 := bw_setCell (p := ⟨w.heap.size + 1, kix l[k], none⟩) (u := .int .i64 (v + 1)) hbw gb
      have hbx2 := hbx.setOther (p := ⟨w.heap.size + 1, kix l[k], none⟩) (by simp) (.int .i64 (v + 1))
      obtain ⟨HK1, HK0⟩ := kix_at l[k]
      generalize kix l[k] = x at *
      generalize l[k].kind = q at *
      by_cases hq : 1 ≤ q ∧ q ≤ 4
      · have e1 := HK1 hq
        subst e1
        have q1 : ¬ (x : Int) < 1 := by omega
        have q4 : ¬ 4 < (x : Int) := by omega
        have hx5 : x < 5 := by omega
        have hx5' : (x : Int) < 5 := by omega
        clear HK1 HK0 hq ov
        go_wp2_with fail
        go_roundw
        case rel => exact ⟨k + 1, by omega, by go_num, hbx2, ov2, hbw2⟩
        case measure => simp [intOf]; omega
      · have e0 := HK0 hq
        subst e0
        clear HK1 HK0 ov
        by_cases q1 : q < 1
        · clear hq
          go_wp2_with fail
          go_roundw
          case rel => exact ⟨k + 1, by omega, by go_num, hbx2, ov2, hbw2⟩
          case measure => simp [intOf]; omega
        · have q4 : 4 < q := by omega
          clear hq
          go_wp2_with fail
          go_roundw
          case rel => exact ⟨k + 1, by omega, by go_num, hbx2, ov2, hbw2⟩
          case measure => simp [intOf]; omega
    · obtain rfl : k = l.length := by omega
      rw [List.take_length] at ov
      go_wp2_with fail
      go_ret
      exact ⟨⟨_, rfl, ov⟩, hbw⟩
end Go.Proofs.YtlcdnkloijehjaaGreatDoor

namespace Go.Proofs.YtlcdnkloijehjaaGreatDoor
open Go.RowKit
set_option linter.unusedVariables false

def RetB (e : Ending) : Prop := ∃ b : Bool, e = .returned (.bool b)
set_option maxHeartbeats 4000000 in
set_option maxRecDepth 100000 in
theorem size_any (r0 : Rpt) (A0 A1 A2 : Option Addr) (c0 c1 c2 : Nat) (w : World) (hl0 : r0.opn.length ≤ 9223372036854775806) (hl1 : r0.hdn.length ≤ 9223372036854775806) (hs0 : Sl Lay.fnd w A0 r0.opn) (hs1 : Sl Lay.hdn w A1 r0.hdn) :
    Calls Tryz.prog 7 #[.agg #[.slice A0 r0.opn.length c0, .slice A1 r0.hdn.length c1, .slice A2 r0.uns.length c2]] w fun e w' => RetB e ∧ Below w.heap.size w w' := by
  obtain ⟨O, H, U⟩ := r0
  simp only at hl0 hl1 hs0 hs1 ⊢
  have bx0 := Box.new w [.slice A0 O.length c0, .slice A1 H.length c1, .slice A2 U.length c2] 26
  have hb0 : Below w.heap.size w (w.alloc (.cells #[.slice A0 O.length c0, .slice A1 H.length c1, .slice A2 U.length c2] 26)) := (by repeat (first | assumption | exact Below.refl _ _ | apply bw_alloc | apply bw_drew | apply bw_drewN | apply bw_later | apply bw_step))
  go_enter Tryz.func7, Tryz.ntmps7
  go_upto_region 2 with fail
  generalize World.alloc _ _ = w1 at *
  generalize wrap64 (wrap64 ((O.length : Int) + (H.length : Int)) + (U.length : Int)) = n0
  by_cases h3 : 300 < n0
  · go_wp2_with fail
    go_ret
    exact ⟨⟨_, rfl⟩, hb0⟩
  go_wp2_with fail
  clear h3
  go_loopw [3, 4] (fun v3 i wr => ∃ (k : Nat) (n : Int), k ≤ O.length ∧ i = .int .i64 k ∧ v3 = .int .i64 n ∧ Box wr w.heap.size [.slice A0 O.length c0, .slice A1 H.length c1, .slice A2 U.length c2] 26 ∧ Below w.heap.size w wr) (fun _ i _ => O.length - (intOf i).toNat)
  case atStart => exact ⟨0, _, Nat.zero_le _, rfl, rfl, bx0, hb0⟩
  case round =>
    clear bx0 hb0
    obtain ⟨k, n, hk, rfl, rfl, hbx, hbw⟩ := hrel
    have p0 := hbx.cell 0 rfl
    have pl := hbx.lt
    by_cases ht : k < O.length ∧ n ≤ 3000
    · obtain ⟨hlt, hn⟩ := ht
      obtain ⟨b, o, A3, c3, rfl, h1, d0, d1, d2, d3, d4, d5, hc3, hs3⟩ := (hs0.mono hbw).fnd_at hlt
      go_wp2_with fail
      go_roundw
      case rel => exact ⟨k + 1, _, by omega, by go_num, rfl, hbx, hbw⟩
      case measure => simp [intOf]; omega
    · have HEX : Hid (k ≤ O.length) := hk
      clear hk p0 pl
      have hcase : (¬ k < O.length) ∨ (k < O.length ∧ ¬ n ≤ 3000) := by
        by_cases h : k < O.length
        · exact Or.inr ⟨h, fun h2 => ht ⟨h, h2⟩⟩
        · exact Or.inl h
      clear ht
      have p0 := hbx.cell 0 rfl
      have pl := hbx.lt
      obtain ⟨wo, rfl⟩ : ∃ wo : World, wo = wr := ⟨_, rfl⟩
      rcases hcase with hc1 | ⟨hc1, hc2⟩
      all_goals (
        go_wp2_with fail
        clear p0 pl
        go_loopw [3, 5] (fun v3 i wr => ∃ (k : Nat) (n : Int), k ≤ H.length ∧ i = .int .i64 k ∧ v3 = .int .i64 n ∧ Box wr w.heap.size [.slice A0 O.length c0, .slice A1 H.length c1, .slice A2 U.length c2] 26 ∧ Below w.heap.size w wr) (fun _ i _ => H.length - (intOf i).toNat)
        case atStart => exact ⟨0, _, Nat.zero_le _, rfl, rfl, hbx, hbw⟩
        case round =>
          clear hbx hbw
          obtain ⟨k, n, hk, rfl, rfl, hbx, hbw⟩ := hrel
          have p1 := hbx.cell 1 rfl
          have pl := hbx.lt
          by_cases hlt : k < H.length
          · by_cases hn : n ≤ 3000
            · obtain ⟨b, o, A3, c3, rfl, h1, d0, d1, d2, d3, d4, d5, d6, hc3, hs3⟩ := (hs1.mono hbw).hdn_at hlt
              go_wp2_with fail
              go_roundw
              case rel => exact ⟨k + 1, _, by omega, by go_num, rfl, hbx, hbw⟩
              case measure => simp [intOf]; omega
            · go_wp2_with fail
              go_ret
              exact ⟨⟨_, rfl⟩, hbw⟩
          · go_wp2_with fail
            go_ret
            exact ⟨⟨_, rfl⟩, hbw⟩)
/-! ### awake -/
def RetW (w' : World) (e : Ending) : Prop := ∃ A0 c0 A1 c1 A2 c2, e = .returned (.tuple #[.agg #[.slice A0 0 c0, .slice A1 0 c1, .slice A2 1 c2], .int .i64 0, .int .i64 0]) ∧ 1 ≤ c2 ∧ Sl Lay.int w' A2 [2]
theorem okRptW : OkRpt rptW := ⟨Nat.zero_le _, Nat.zero_le _, by decide, fun x h => by simp [rptW] at h, fun x h => by simp [rptW] at h⟩
theorem Sl.one_new (w : World) (t : TypeId) : Sl Lay.int (w.alloc (.cells #[.int .i64 2] t)) (some ⟨w.heap.size, 0, none⟩) [2] := fun i x hx => by
  match i, hx with
  | 0, hx =>
    simp at hx
    subst hx
    refine ⟨w.heap.size, 0, [.int .i64 2], rfl, by simp, rfl, fun j v hj => ?_⟩
    match j, hj with
    | 0, hj => simp at hj; subst hj; simp [Lay.int, Lay.plain]
theorem parse_W (W : World) (hg : Glp W) : Calls Tryz.prog 15 #[.string txtW] W fun e w' => RetW w' e ∧ Below W.heap.size W w' := by
  refine (rptParse_any txtW W hg (by decide)).mono ?_
  rintro e w' ⟨⟨A0, c0, A1, c1, A2, c2, h, h0, h1, h2, h3, h4, h5⟩, hb⟩
  rw [txtW_par] at h h2 h5
  exact ⟨⟨A0, c0, A1, c1, A2, c2, h, h2, h5⟩, hb⟩
theorem text_W (w : World) (hg : Glp w) : Calls Tryz.prog 13 #[.agg #[.slice none 0 0, .slice none 0 0, .slice (some ⟨w.heap.size, 0, none⟩) 1 1]] (w.alloc (.cells #[.int .i64 2] 3)) fun e w' => e = .returned (.tuple #[.string txtW, .int .i64 0]) ∧ Below (w.alloc (.cells #[.int .i64 2] 3)).heap.size (w.alloc (.cells #[.int .i64 2] 3)) w' := by
  have hb : Below w.heap.size w (w.alloc (.cells #[.int .i64 2] 3)) := (by repeat (first | assumption | exact Below.refl _ _ | apply bw_alloc | apply bw_drew | apply bw_drewN | apply bw_later | apply bw_step))
  have h := rptText_any rptW none none (some ⟨w.heap.size, 0, none⟩) 0 0 1 _ (Lib.hid okRptW) (hg.mono hb).g (Nat.zero_le _) Sl.nil Sl.nil (Sl.one_new w 3)
  rw [rptW_txt] at h
  exact h
set_option maxHeartbeats 4000000 in
set_option maxRecDepth 100000 in
theorem awake_any (w : World) (hg : Glp w) : Calls Tryz.prog 8 #[] w fun e w' => e = .returned (.bool true) ∧ Below w.heap.size w w' := by
  have HT := Lib.hid (text_W w hg)
  have HP := Lib.hid (fun W h => parse_W W (hg.mono h))
  have HE : Hid ((txtW.toList == [111, 112, 101, 110, 32, 48, 10, 104, 105, 100, 100, 101, 110, 32, 48, 10, 117, 110, 117, 115, 101, 100, 32, 49, 10, 105, 110, 100, 101, 120, 32, 50, 10]) = true) := by
    show _ = _
    rw [ByteArray.toList_eq]
    rfl
  have hbA : Below w.heap.size w (w.alloc (.cells #[.int .i64 2] 3)) := (by repeat (first | assumption | exact Below.refl _ _ | apply bw_alloc | apply bw_drew | apply bw_drewN | apply bw_later | apply bw_step))
  have HPT : Hid (∀ W, Below w.heap.size w W → Calls Tryz.prog 15 #[.string { data := #[111, 112, 101, 110, 32, 48, 10, 104, 105, 100, 100, 101, 110, 32, 48, 10, 117, 110, 117, 115, 101, 100, 32, 49, 10, 105, 110, 100, 101, 120, 32, 50, 10] }] W fun e w' => RetW w' e ∧ Below W.heap.size W w') := HP.out
  clear HP
  obtain ⟨tx, HX⟩ : ∃ t, Hid (t = txtW) := ⟨_, Lib.hid rfl⟩
  rw [← HX.out] at HT HE
  have te := HE.out
  clear HX HE
  go_enter Tryz.func8, Tryz.ntmps8
  go_wp2_with fail
  refine HT.out.mono ?_
  rintro e w1 ⟨rfl, hb1⟩
  have hbw1 := below_step hbA hb1
  clear HT hbA hb1
  go_wp2_with fail
  refine (HPT.out _ hbw1).mono ?_
  rintro e w2 ⟨⟨A0, c0, A1, c1, A2, c2, rfl, hc2, hs2⟩, hb2⟩
  have hbw2 := below_step hbw1 hb2
  have hb3 : Below w2.heap.size w2 (w2.alloc (.cells #[.slice A0 0 c0, .slice A1 0 c1, .slice A2 1 c2] 26)) := (by repeat (first | assumption | exact Below.refl _ _ | apply bw_alloc | apply bw_drew | apply bw_drewN | apply bw_later | apply bw_step))
  have bx3 := Box.new w2 [.slice A0 0 c0, .slice A1 0 c1, .slice A2 1 c2] 26
  have hs3 := hs2.mono hb3
  have hbw3 := below_step hbw2 hb3
  have HC := Lib.hid (fun W => count_any [] A0 A1 A2 c0 0 c1 1 c2 W (by simp) Sl.nil)
  simp only [List.length_nil] at HC
  clear hbw1 hb2 hs2 hbw2 hb3 HPT
  go_upto_region 3 with fail
  generalize World.alloc w2 _ = w3 at *
  generalize w2.heap.size = b3 at *
  have p0 := bx3.cell 0 rfl
  have p1 := bx3.cell 1 rfl
  have p2 := bx3.cell 2 rfl
  have pl := bx3.lt
  obtain ⟨b, o, rfl, hbl, d0⟩ := hs3.int_at (i := 0) (by simp)
  simp only [List.getElem_cons_zero, Nat.add_zero] at d0
  go_wp2_with fail
  refine (HC.out _).mono ?_
  rintro e w4 ⟨⟨g, rfl, -⟩, hb4⟩
  go_wp2_with fail
  go_ret
  exact ⟨rfl, below_step hbw3 hb4⟩
/-! ### What a valid report holds -/
theorem RptV.ok {r : Rpt} (h : RptV r) : OkRpt r := by
  have hp : ∀ {p : Plc}, PlcV p → OkPlc p := fun hv => ⟨by have := (identB_size hv.cls).2; omega, by have := (identB_size hv.mth).2; omega⟩
  have hf : ∀ {f : Fnd}, FndV f → OkFnd f := fun hv => ⟨hp hv.plc, by have := (whatB_size hv.what).2; omega, by have := hv.len; omega, fun p hpm => hp (hv.path p hpm)⟩
  have h0 := h.n0; have h1 := h.n1; have h2 := h.n2
  exact ⟨by omega, by omega, by omega, fun f hm => hf (h.opn f hm), fun x hm => hf (h.hdn x hm)⟩
end Go.Proofs.YtlcdnkloijehjaaGreatDoor

namespace Go.Proofs.YtlcdnkloijehjaaGreatDoor
open Go.RowKit
set_option linter.unusedVariables false

structure SmR (r : Rpt) : Prop where
  l0 : r.opn.length ≤ 1600000000000
  l1 : r.hdn.length ≤ 1600000000000
  l2 : r.uns.length ≤ 18000000000000
set_option maxHeartbeats 8000000 in
set_option maxRecDepth 100000 in
theorem walk_ReportTells (r0 : Rpt) (A0 A1 A2 : Option Addr) (c0 c1 c2 : Nat) (w : World) (hg : Glp w) (hok : Hid (OkRpt r0)) (hsm : SmR r0) (hc0 : r0.opn.length ≤ c0) (hs0 : Sl Lay.fnd w A0 r0.opn) (hs1 : Sl Lay.hdn w A1 r0.hdn) (hs2 : Sl Lay.int w A2 r0.uns) :
    Calls Tryz.prog 3 #[.agg #[.slice A0 r0.opn.length c0, .slice A1 r0.hdn.length c1, .slice A2 r0.uns.length c2]] w fun e w' => e = .returned (.bool true) ∧ Below w.heap.size w w' := by
  have h0 := hsm.l0; have h1 := hsm.l1; have h2 := hsm.l2
  have HZ := Lib.hid (fun W h => size_any r0 A0 A1 A2 c0 c1 c2 W (by omega) (by omega) (hs0.mono h) (hs1.mono h))
  have HN := Lib.hid (fun W h => count_any r0.opn A0 A1 A2 c0 r0.hdn.length c1 r0.uns.length c2 W (by omega) (hs0.mono h))
  have HM := Lib.hid (fun W h => refCnt_any r0.opn A0 A1 A2 c0 r0.hdn.length c1 r0.uns.length c2 W (by omega) (hs0.mono h))
  have HC := Lib.hid (fun W h => rptCheck_any r0 A0 A1 A2 c0 c1 c2 W hok ((hg.mono h).g.kw) hc0 (hs0.mono h) (hs1.mono h) (hs2.mono h))
  have HD := Lib.hid (fun W h => refRptCheck_any r0 A0 A1 A2 c0 c1 c2 W hok (hs0.mono h) (hs1.mono h) (hs2.mono h))
  have HW := Lib.hid (fun W h => awake_any W (hg.mono h))
  have HL := Lib.hid (cntF_len r0.opn)
  generalize cntF r0.opn = R at *
  generalize rptE r0 = q at *
  have tq : (q == q) = true := by simp
  obtain ⟨O, H, U⟩ := r0
  simp only at h0 h1 h2 hc0 hs0 hs1 hs2 HZ HN HM HC HD ⊢
  clear hok hsm hg hs0 hs1 hs2
  have bx0 := Box.new w [.slice A0 O.length c0, .slice A1 H.length c1, .slice A2 U.length c2] 26
  have hb0 : Below w.heap.size w (w.alloc (.cells #[.slice A0 O.length c0, .slice A1 H.length c1, .slice A2 U.length c2] 26)) := (by repeat (first | assumption | exact Below.refl _ _ | apply bw_alloc | apply bw_drew | apply bw_drewN | apply bw_later | apply bw_step))
  go_enter Tryz.func3, Tryz.ntmps3
  go_upto_region 1 with fail
  generalize World.alloc _ _ = w1 at *
  have p0 := bx0.cell 0 rfl
  have p1 := bx0.cell 1 rfl
  have p2 := bx0.cell 2 rfl
  have pl := bx0.lt
  go_wp2_with fail
  refine (HZ.out _ hb0).mono ?_
  rintro e w2 ⟨⟨bz, rfl⟩, hb2⟩
  have bx2 := bx0.mono hb2
  have hbw2 := below_step hb0 hb2
  clear p0 p1 p2 pl bx0 hb0 hb2 HZ
  cases bz with
  | false =>
    go_wp2_with fail
    refine (HW.out _ hbw2).mono ?_
    rintro e w3 ⟨rfl, hb3⟩
    go_wp2_with fail
    go_ret
    exact ⟨rfl, below_step hbw2 hb3⟩
  | true =>
    have p0 := bx2.cell 0 rfl
    have p1 := bx2.cell 1 rfl
    have p2 := bx2.cell 2 rfl
    have pl := bx2.lt
    go_upto_region 3 with fail
    go_cut [3, 4] (fun v3 v4 wx => ∃ g3 g4, v3 = .slice (some ⟨g3, 0, none⟩) 5 5 ∧ v4 = .slice (some ⟨g4, 0, none⟩) 5 5 ∧ Sl Lay.int wx (some ⟨g3, 0, none⟩) R ∧ Sl Lay.int wx (some ⟨g4, 0, none⟩) R ∧ Box wx w.heap.size [.slice A0 O.length c0, .slice A1 H.length c1, .slice A2 U.length c2] 26 ∧ Below w.heap.size w wx)
    case first =>
      have hb3 : Below w.heap.size w w2.drew := bw_drew hbw2
      refine wp_region_RW 6 (by kernel_rfl) (by kernel_rfl) ?_
      refine RW.chunk (f := 4) [0, 2] (by kernel_rfl) ?_
      ((simp only [pickOps, List.filterMap, List.getElem?_toArray, List.getElem?_cons_zero, List.getElem?_cons_succ]); (repeat (go_big_quiet_step (fail))); refine wpQuiet_nil ?_)
      refine RW.single 1 rfl (by kernel_rfl) (by omega) ?_
      intro K hK
      go_wp2_with fail
      refine (HN.out _ hb3).mono ?_
      rintro e w3 ⟨⟨g3, rfl, ho3⟩, hbx3⟩
      obtain ⟨A3, c3, e3, -, hs3⟩ := ho3.sl (L := Lay.int) rfl (fun x => rfl)
      obtain rfl : A3 = some ⟨g3, 0, none⟩ := by injection e3 with h; exact h.symm
      clear e3
      have hbw3 := below_step hb3 hbx3
      go_wp2_with fail
      refine hK _ _ hbx3 ?_
      clear hK
      refine RW.single 3 rfl (by kernel_rfl) (by omega) ?_
      intro K hK
      go_wp2_with fail
      refine (HM.out _ hbw3).mono ?_
      rintro e w4 ⟨⟨g4, rfl, ho4⟩, hbx4⟩
      obtain ⟨A4, c4, e4, -, hs4⟩ := ho4.sl (L := Lay.int) rfl (fun x => rfl)
      obtain rfl : A4 = some ⟨g4, 0, none⟩ := by injection e4 with h; exact h.symm
      clear e4
      go_wp2_with fail
      refine hK _ _ hbx4 ?_
      clear hK
      refine RW.chunk (f := 0) [4, 5] (by kernel_rfl) ?_
      ((simp only [pickOps, List.filterMap, List.getElem?_toArray, List.getElem?_cons_zero, List.getElem?_cons_succ]); (repeat (go_big_quiet_step (fail))); refine wpQuiet_nil ?_)
      (refine RW.done (by kernel_rfl) (by kernel_rfl) ?_)
      go_wp2_with fail
      go_meet
      exact ⟨g3, g4, rfl, rfl, hs3.mono hbx4, hs4, ((bx2.mono (by exact (by repeat (first | assumption | exact Below.refl _ _ | apply bw_alloc | apply bw_drew | apply bw_drewN | apply bw_later | apply bw_step)))).mono hbx3).mono hbx4, below_step hbw3 hbx4⟩
    case rest =>
    obtain ⟨g3, g4, rfl, rfl, hs3, hs4, hbx, hbw⟩ := hcut
    clear p0 p1 p2 pl bx2 hbw2 HN HM
    go_wp2_with fail
    go_loopw [5] (fun i wr => ∃ k : Nat, k ≤ 5 ∧ i = .int .i64 k ∧ Below wc.heap.size wc wr) (fun i _ => 6 - (intOf i).toNat)
    case atStart => exact ⟨0, by omega, rfl, Below.refl _ _⟩
    case round =>
      obtain ⟨k, hk, rfl, hbr⟩ := hrel
      by_cases hlt : k < 5
      · obtain ⟨b, o, e1, hb, d0⟩ := (hs3.mono hbr).int_at (i := k) (by rw [HL.out]; omega)
        obtain ⟨b', o', e2, hb', d1⟩ := (hs4.mono hbr).int_at (i := k) (by rw [HL.out]; omega)
        injection e1 with e1
        injection e1 with z1 z2
        injection e2 with e2
        injection e2 with z3 z4
        subst z1 z2 z3 z4
        rw [Nat.zero_add] at d0 d1
        generalize R[k]'(by rw [HL.out]; omega) = x at *
        have tx : (x != x) = false := by simp
        have hlt' : (k : Int) < 5 := by omega
        go_wp2_with fail
        refine wp_region_later (by kernel_rfl) (by kernel_rfl) ?_
        repeat (go_big_quiet_step (fail))
        refine wpQuiet_nil ?_
        rintro _ ⟨z, rfl⟩
        go_wp2_with fail
        go_roundw
        case rel => exact ⟨k + 1, by omega, by go_num, below_step hbr z.h⟩
        case measure => simp [intOf]; omega
      · have hlt' : ¬ (k : Int) < 5 := by omega
        have bx3 := hbx.mono hbr
        have hbw3 := below_step hbw hbr
        clear hbx hbw hs3 hs4 hbr
        have p0 := bx3.cell 0 rfl
        have p1 := bx3.cell 1 rfl
        have p2 := bx3.cell 2 rfl
        have pl := bx3.lt
        have HC' : Hid (∀ z : Later wr, Calls Tryz.prog 11 #[.agg #[.slice A0 O.length c0, .slice A1 H.length c1, .slice A2 U.length c2]] z.W fun e w'' => e = .returned (.int .i64 q) ∧ ∃ y : Later wr, w'' = y.W) := fun z => Calls.later (HC.out _ (below_step hbw3 z.h))
        have HD' : Hid (∀ z : Later wr, Calls Tryz.prog 12 #[.agg #[.slice A0 O.length c0, .slice A1 H.length c1, .slice A2 U.length c2]] z.W fun e w'' => e = .returned (.int .i64 q) ∧ ∃ y : Later wr, w'' = y.W) := fun z => Calls.later (HD.out _ (below_step hbw3 z.h))
        have HW' : Hid (∀ z : Later wr, Calls Tryz.prog 8 #[] z.W fun e w'' => e = .returned (.bool true) ∧ ∃ y : Later wr, w'' = y.W) := fun z => Calls.later (HW.out _ (below_step hbw3 z.h))
        clear HC HD HW
        go_wp2_with fail
        refine wp_region_later (by kernel_rfl) (by kernel_rfl) ?_
        repeat (go_big_quiet_step (first | (go_at_call 11; exact HC'.out _) | (go_at_call 12; exact HD'.out _) | (go_at_call 8; exact HW'.out _)))
        refine wpQuiet_nil ?_
        rintro _ ⟨z, rfl⟩
        go_wp2_with fail
        go_ret
        exact ⟨rfl, below_step hbw3 z.h⟩
end Go.Proofs.YtlcdnkloijehjaaGreatDoor
