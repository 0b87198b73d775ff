/-
  Chapter 42: the law's awake: a policy of one rule.
-/
import Derived.Test.YthabojhnliomnaaGreatDoorPolE
import Derived.Test.YthabojhnliomnaaGreatDoorBld
namespace Go.Proofs.YthabojhnliomnaaGreatDoor
open Go.RowKit
set_option linter.unusedVariables false

def exRul : Rul := ⟨1, bS, bGet, ⟨2, 0, [], false⟩, bSecret⟩
theorem exRul_ok : rulE exRul = 0 := by kernel_rfl
theorem exRul_size : OkRul exRul := ⟨by decide, by decide, by decide, by decide, fun y hy => by simp [exRul] at hy⟩
def exCells : List Value := [.int .i64 1, .string bS, .string bGet, .int .i64 2, .int .i64 0, .slice none 0 0, .bool false, .string bSecret]
/-- A slice of that one rule. -/
theorem exSl {w : World} {g : Nat} {A : Option Addr} (hA : A = some ⟨g, 0, none⟩) (hg : g < w.heap.size) (h : ∀ j u, exCells[j]? = some u → w.cell? ⟨g, j, none⟩ = some u) : Sl Lay.rul w A [exRul] := by
  subst hA
  intro i x hx
  match i, hx with
  | 0, hx =>
    simp at hx
    subst hx
    refine ⟨g, 0, exCells, rfl, hg, ⟨[.int .i64 2, .int .i64 0, .slice none 0 0, .bool false], rfl, none, 0, rfl, Nat.le_refl _, Sl.nil⟩, fun j v hj => ?_⟩
    show w.cell? ⟨g, 0 + 0 * 8 + j, none⟩ = _
    rw [show 0 + 0 * 8 + j = j by omega]
    exact h j v hj
  | i + 1, hx => simp at hx
set_option maxRecDepth 100000 in
set_option maxHeartbeats 2000000 in
theorem polCheck_ex (A : Option Addr) (c : Nat) (w : World) (hg : Glob w) (hs : Sl Lay.rul w A [exRul]) :
    Calls Tryz.prog 10 #[.agg #[.slice A 1 c, .slice none 0 0]] w fun e w' => e = .returned (.tuple #[.int .i64 0, .int .i64 0]) ∧ Below w.heap.size w w' := by
  have hb0 : Below w.heap.size w (w.alloc (.cells #[.slice A 1 c, .slice none 0 0] 25)) := (by repeat (first | assumption | exact Below.refl _ _ | apply bw_alloc | apply bw_drew | apply bw_drewN | apply bw_later | apply bw_step))
  have bx0 := Box.new w [.slice A 1 c, .slice none 0 0] 25
  go_enter Tryz.func10, Tryz.ntmps10
  go_wp2_with fail
  go_loopw [25] (fun i wr => ∃ k : Nat, k ≤ 1 ∧ i = .int .i64 k ∧ Box wr w.heap.size [.slice A 1 c, .slice none 0 0] 25 ∧ Below w.heap.size w wr) (fun i _ => 1 - (intOf i).toNat)
  case atStart => exact ⟨0, Nat.zero_le _, rfl, bx0, hb0⟩
  case round =>
    obtain ⟨k, hk, rfl, hbx, hbw⟩ := hrel
    by_cases hlt : k < 1
    · obtain rfl : k = 0 := by omega
      obtain ⟨b, o, A5, c5, rfl, hb, d0, d1, d2, d3, d4, d5, d6, d7, hc5, hs5⟩ := (hs.mono hbw).rul_at (i := 0) (by simp)
      have HC := fun W hW => checkRule_any exRul A5 c5 W (Lib.hid exRul_size) (hg.mono hW).kw (Sl.nil : Sl Lay.str W A5 [])
      rw [exRul_ok] at HC
      replace HC := Lib.hid HC
      simp only [List.getElem_cons_zero, Nat.zero_mul, Nat.add_zero] at d0 d1 d2 d3 d4 d5 d6 d7
      obtain ⟨W1, hW1⟩ : ∃ W1, W1 = wr.alloc (.cells #[.int .i64 exRul.kind, .string exRul.cls, .string exRul.mth, .int .i64 exRul.pth.root, .int .i64 exRul.pth.n, .slice A5 exRul.pth.fields.length c5, .bool exRul.pth.star, .string exRul.tag] 51) := ⟨_, rfl⟩
      go_wp2_with fail
      refine (HC.out _ (bw_alloc hbw)).mono ?_
      rintro e w2 ⟨rfl, hb2⟩
      have hbx2 := (hbx.alloc _).mono hb2
      have hbw2 := below_step (bw_alloc hbw) hb2
      go_wp2_with fail
      go_roundw
      case rel => exact ⟨1, by omega, by go_num, hbx2, hbw2⟩
      case measure => simp [intOf]
    · obtain rfl : k = 1 := by omega
      have p1 := hbx.cell 1 rfl
      have pl := hbx.lt
      go_wp2_with fail
      go_loop [40] (fun i => i = .int .i64 0) (fun _ => 0)
      case atStart => rfl
      case round =>
        obtain rfl := hrel
        go_wp2_with fail
        go_ret2
        exact ⟨rfl, hbw⟩
set_option maxRecDepth 100000 in
theorem acpText_result (A : Option Addr) (c : Nat) (w : World) (hg : Glob w) : Calls Tryz.prog 32 #[.agg #[.int .i64 2, .int .i64 0, .slice A 0 c, .bool false]] w fun e w' => e = .returned (.tuple #[.string bResult, .int .i64 0]) ∧ Below w.heap.size w w' := by
  have hb0 : Below w.heap.size w (w.alloc (.cells #[.int .i64 2, .int .i64 0, .slice A 0 c, .bool false] 49)) := (by repeat (first | assumption | exact Below.refl _ _ | apply bw_alloc | apply bw_drew | apply bw_drewN | apply bw_later | apply bw_step))
  have bx0 := Box.new w [.int .i64 2, .int .i64 0, .slice A 0 c, .bool false] 49
  go_enter Tryz.func32, Tryz.ntmps32
  go_wp2_with fail
  refine (acpCheck_any ⟨2, 0, [], false⟩ A c _ (by simp) (hg.mono hb0).kw Sl.nil (fun y hy => by simp at hy)).mono ?_
  rw [acpE_result]
  rintro e w1 ⟨rfl, hb1⟩
  have bx1 := bx0.mono hb1
  have p0 := bx1.cell 0 rfl
  have p1 := bx1.cell 1 rfl
  have p2 := bx1.cell 2 rfl
  have p3 := bx1.cell 3 rfl
  have pl := bx1.lt
  go_wp2_with fail
  go_loop [5, 36] (fun t i => t = .string bResult ∧ i = .int .i64 0) (fun _ _ => 0)
  case atStart => exact ⟨rfl, rfl⟩
  case round =>
    obtain ⟨rfl, rfl⟩ := hrel
    go_wp2_with fail
    go_ret2
    exact ⟨rfl, below_step hb0 hb1⟩
theorem bldAt_mono {T e : TypeId} {B b : Nat} {p : Value} {bs : List Value} {w w' : World} (h : Lib.BuilderAt T e B b p bs w) (hb : Below w.heap.size w w') : Lib.BuilderAt T e B b p bs w' := by
  obtain ⟨hB, v, hbk, hown, hne⟩ := h
  exact ⟨hB, v, (hb.block b (Array.getElem?_eq_some_iff.1 hbk).1).trans hbk, World.ownsRow.kept hown (row := none) ⟨hb.os, hb.tape, hb.output, hb.size, fun k hk _ => hb.block k hk⟩ (by cases v.ownBlock <;> simp), hne⟩
theorem isBld_mono {T e : TypeId} {B b : Nat} {bs : List Value} {w w' : World} (h : Lib.IsBuilder T e B b bs w) (hb : Below w.heap.size w w') : Lib.IsBuilder T e B b bs w' := h.imp (fun h => bldAt_mono h hb) (fun h => bldAt_mono h hb)
def bText : ByteArray := ⟨#[115, 111, 117, 114, 99, 101, 32, 83, 32, 103, 101, 116, 32, 114, 101, 115, 117, 108, 116, 32, 115, 101, 99, 114, 101, 116, 10]⟩
theorem join_line (w : World) (b : Nat) (hb : Box w b wordCells 9) : Calls Tryz.prog 34 #[.slice (some ⟨b, 0, none⟩) 5 5, .string ⟨#[32]⟩] w fun e w' => e = .returned (.string bLine) ∧ Below w.heap.size w w' :=
  Tryz.strings_Join b 0 5 [bSource, bS, bGet, bResult, bSecret] ⟨#[32]⟩ w (fun j x hj => by
    rw [Nat.zero_add]
    match j, hj with
    | 0, hj => simp at hj; subst hj; exact hb.cell 0 rfl
    | 1, hj => simp at hj; subst hj; exact hb.cell 1 rfl
    | 2, hj => simp at hj; subst hj; exact hb.cell 2 rfl
    | 3, hj => simp at hj; subst hj; exact hb.cell 3 rfl
    | 4, hj => simp at hj; subst hj; exact hb.cell 4 rfl) hb.lt (by decide) (by decide) (by decide)
theorem text_cells : ([] : List Value) ++ Lib.strCells bLine ++ [.int .u8 10] = Lib.byteCells bText.data.toList := by kernel_rfl
set_option maxRecDepth 100000 in
set_option maxHeartbeats 2000000 in
theorem polText_ex (A : Option Addr) (c : Nat) (w : World) (hg : Glob w) (hs : Sl Lay.rul w A [exRul]) :
    Calls Tryz.prog 13 #[.agg #[.slice A 1 c, .slice none 0 0]] w fun e w' => e = .returned (.tuple #[.string bText, .int .i64 0]) ∧ Below w.heap.size w w' := by
  have hb0 : Below w.heap.size w (w.alloc (.cells #[.slice A 1 c, .slice none 0 0] 25)) := (by repeat (first | assumption | exact Below.refl _ _ | apply bw_alloc | apply bw_drew | apply bw_drewN | apply bw_later | apply bw_step))
  have bx0 := Box.new w [.slice A 1 c, .slice none 0 0] 25
  go_enter Tryz.func13, Tryz.ntmps13
  go_wp2_with fail
  refine (polCheck_ex A c _ (hg.mono hb0) (hs.mono hb0)).mono ?_
  rintro e w1 ⟨rfl, hb1⟩
  have bx1 := bx0.mono hb1
  have hbw1 := below_step hb0 hb1
  have p0 := bx1.cell 0 rfl
  have p1 := bx1.cell 1 rfl
  have pl := bx1.lt
  go_wp2_with fail
  generalize hW : World.alloc _ _ = W2
  have hbb : Lib.IsBuilder 68 5 w1.heap.size w1.heap.size [] W2 := by rw [← hW]; exact Lib.fresh_isBuilder _ _ _
  have bx2 : Box W2 w.heap.size [.slice A 1 c, .slice none 0 0] 25 := by rw [← hW]; exact bx1.alloc _
  have hbw2 : Below w.heap.size w W2 := by rw [← hW]; exact bw_alloc hbw1
  have hz2 : w1.heap.size ≤ W2.heap.size := by rw [← hW]; simp
  have hz1 : w.heap.size < w1.heap.size := bx1.lt
  clear hW p0 p1 pl
  refine wp_loop_rounds 2 ?_
  rw [rounds_succ]
  obtain ⟨b, o, A5, c5, rfl, hb, d0, d1, d2, d3, d4, d5, d6, d7, hc5, hs5⟩ := (hs.mono hbw2).rul_at (i := 0) (by simp)
  simp only [List.getElem_cons_zero, Nat.zero_mul, Nat.add_zero] at d0 d1 d2 d3 d4 d5 d6 d7
  have d0' : W2.cell? ⟨b, o, none⟩ = some (.int .i64 1) := d0
  have d1' : W2.cell? ⟨b, o + 1, none⟩ = some (.string bS) := d1
  have d2' : W2.cell? ⟨b, o + 2, none⟩ = some (.string bGet) := d2
  have d3' : W2.cell? ⟨b, o + 3, none⟩ = some (.int .i64 2) := d3
  have d4' : W2.cell? ⟨b, o + 4, none⟩ = some (.int .i64 0) := d4
  have d5' : W2.cell? ⟨b, o + 5, none⟩ = some (.slice A5 0 c5) := d5
  have d6' : W2.cell? ⟨b, o + 6, none⟩ = some (.bool false) := d6
  have d7' : W2.cell? ⟨b, o + 7, none⟩ = some (.string bSecret) := d7
  clear d0 d1 d2 d3 d4 d5 d6 d7 hc5 hs5
  go_wp2_with fail
  generalize hW : World.alloc W2 _ = W3
  have hb23 : Below W2.heap.size W2 W3 := by rw [← hW]; exact (by repeat (first | assumption | exact Below.refl _ _ | apply bw_alloc | apply bw_drew | apply bw_drewN | apply bw_later | apply bw_step))
  have bxr : Box W3 W2.heap.size [.int .i64 1, .string bS, .string bGet, .int .i64 2, .int .i64 0, .slice A5 0 c5, .bool false, .string bSecret] 51 := by rw [← hW]; exact Box.new _ _ _
  clear hW
  refine (acpText_result A5 c5 _ (hg.mono (below_step hbw2 hb23))).mono ?_
  rintro e w4 ⟨rfl, hb34⟩
  have hb24 := below_step hb23 hb34
  have bxr4 := bxr.mono hb34
  have r1 := bxr4.cell 1 rfl
  have r2 := bxr4.cell 2 rfl
  have r7 := bxr4.cell 7 rfl
  have rl := bxr4.lt
  go_wp2_with fail
  generalize hW : World.alloc w4 _ = W5
  have hb45 : Below w4.heap.size w4 W5 := by rw [← hW]; exact (by repeat (first | assumption | exact Below.refl _ _ | apply bw_alloc | apply bw_drew | apply bw_drewN | apply bw_later | apply bw_step))
  have bxw : Box W5 w4.heap.size wordCells 9 := by rw [← hW]; unfold wordCells; exact Box.new _ _ _
  clear hW
  refine (join_line _ _ bxw).mono ?_
  rintro e w6 ⟨rfl, hb56⟩
  have hb26 := below_step (below_step hb24 hb45) hb56
  have hbb6 : Lib.IsBuilder 68 5 w1.heap.size w1.heap.size [] w6 := isBld_mono hbb hb26
  have bx6 := bx2.mono hb26
  have hz6 := hb26.size
  go_wp2_with fail
  refine (writeString_any w1.heap.size w1.heap.size [] bLine _ hbb6 (by decide) (by omega)).mono ?_
  rintro e w7 ⟨rfl, hbb7, hb67⟩
  have bx7 := bx6.below hz1 hb67
  have hz7 := hb67.size
  go_wp2_with fail
  refine (writeByte_any w1.heap.size w1.heap.size _ 10 _ (Or.inr hbb7) (by decide) (by omega)).mono ?_
  rintro e w8 ⟨rfl, hbb8, hb78⟩
  rw [text_cells] at hbb8
  have bx8 := bx7.below hz1 hb78
  have hz8 := hb78.size
  have q1 := bx8.cell 1 rfl
  have ql := bx8.lt
  have hbw8 : Below w.heap.size w w8 := (((below_step hbw2 hb26).trans (hb67.mono (by omega))).trans (hb78.mono (by omega)))
  clear d0' d1' d2' d3' d4' d5' d6' d7' r1 r2 r7 rl
  go_wp2_with fail
  rw [rounds_succ]
  go_wp2_with fail
  go_loop [62] (fun i => i = .int .i64 0) (fun _ => 0)
  case atStart => rfl
  case round =>
    obtain rfl := hrel
    go_wp2_with fail
    refine (Tryz.Builder_Len w1.heap.size w1.heap.size _ _ (Or.inr hbb8)).mono ?_
    rintro e w9 ⟨rfl, rfl⟩
    have hlen : (Lib.byteCells bText.data.toList).length = 27 := by kernel_rfl
    rw [hlen]
    go_wp2_with fail
    refine (Tryz.Builder_String_any w1.heap.size w1.heap.size bText.data.toList _ (Or.inr hbb8) (by omega)).mono ?_
    rintro e w10 ⟨rfl, hb10⟩
    go_wp2_with fail
    go_ret2
    exact ⟨rfl, hbw8.trans (hb10.mono (by omega))⟩
end Go.Proofs.YthabojhnliomnaaGreatDoor
