/-
  Chapter 42: the law's awake: the pieces of a rule's line.
-/
import Derived.Test.YtmhdambkchlilaaGreatDoorJPolC
namespace Go.Proofs.YtmhdambkchlilaaGreatDoor
open Go.RowKit
set_option linter.unusedVariables false

/-- What the package variables hold. -/
structure Glob (w : World) : Prop where
  kw : KwX w
  ml : ∃ m, w.cell? ⟨1, 0, none⟩ = some (.int .i64 m)
theorem Glob.lt {w : World} (h : Glob w) : 1 < w.heap.size := by
  obtain ⟨m, hk⟩ := h.ml
  unfold World.cell? at hk
  split at hk
  · rename_i hh; exact (Array.getElem?_eq_some_iff.1 hh).1
  · cases hk
theorem Glob.mono {w w' : World} (h : Glob w) (hb : Below w.heap.size w w') : Glob w' := ⟨h.kw.mono hb, h.ml.imp fun m hm => by rw [hb.cell (p := ⟨_, 0, none⟩) h.lt]; exact hm⟩
def bResult : ByteArray := ⟨#[114, 101, 115, 117, 108, 116]⟩
def bSource : ByteArray := ⟨#[115, 111, 117, 114, 99, 101]⟩
def bS : ByteArray := ⟨#[83]⟩
def bGet : ByteArray := ⟨#[103, 101, 116]⟩
def bSecret : ByteArray := ⟨#[115, 101, 99, 114, 101, 116]⟩
def bLine : ByteArray := ⟨#[115, 111, 117, 114, 99, 101, 32, 83, 32, 103, 101, 116, 32, 114, 101, 115, 117, 108, 116, 32, 115, 101, 99, 114, 101, 116]⟩
theorem parseRoot_result (w : World) : Calls Tryz.prog 317 #[.string bResult] w fun e w' => e = .returned (.tuple #[.int .i64 2, .int .i64 0, .bool true]) ∧ w = w' := by
  unfold bResult
  go_enter Tryz.func317, Tryz.ntmps317
  go_wp2_with fail
  go_ret3
  exact ⟨rfl, rfl⟩
theorem acpE_result : acpE ⟨2, 0, [], false⟩ = 0 := rfl
def agResult : Value := .agg #[.int .i64 2, .int .i64 0, .slice none 0 0, .bool false]
theorem cutSuffix_result (w : World) : Calls Tryz.prog 316 #[.string bResult, .string ⟨#[42]⟩] w fun e w' => e = .returned (.tuple #[.string bResult, .bool false]) ∧ w' = w := Tryz.strings_CutSuffix bResult ⟨#[42]⟩ w (by decide)
theorem split_result (w : World) (hg : Glob w) : Calls Tryz.prog 202 #[.string bResult, .string ⟨#[46]⟩] w fun e w' => e = .returned (.slice (some ⟨w.heap.size, 0, none⟩) 1 1) ∧ w' = w.alloc (.cells #[.string bResult] 9) := by
  obtain ⟨m, hm⟩ := hg.ml
  exact Tryz.strings_Split bResult ⟨#[46]⟩ m w (by decide) hm (by decide)
set_option maxRecDepth 100000 in
theorem acpParse_result (w : World) (hg : Glob w) : Calls Tryz.prog 274 #[.string bResult] w fun e w' => e = .returned (.tuple #[agResult, .int .i64 0]) ∧ Below w.heap.size w w' := by
  have hsz : bResult.size = 6 := rfl
  go_enter Tryz.func274, Tryz.ntmps274
  go_wp2_with fail
  refine (cutSuffix_result _).mono ?_
  rintro e w1 ⟨rfl, rfl⟩
  go_wp2_with fail
  refine (split_result _ (hg.mono (by repeat (first | assumption | exact Below.refl _ _ | apply bw_alloc | apply bw_drew | apply bw_drewN | apply bw_later | apply bw_step)))).mono ?_
  rintro e w1 ⟨rfl, rfl⟩
  go_wp2_with fail
  refine (parseRoot_result _).mono ?_
  rintro e w1 ⟨rfl, rfl⟩
  go_wp2_with fail
  go_loop [38] (fun i => i = .int .i64 0) (fun _ => 0)
  case atStart => rfl
  case round =>
    obtain rfl := hrel
    go_wp2_with fail
    refine (acpCheck_any ⟨2, 0, [], false⟩ none 0 _ (by simp) (hg.mono (by repeat (first | assumption | exact Below.refl _ _ | apply bw_alloc | apply bw_drew | apply bw_drewN | apply bw_later | apply bw_step))).kw Sl.nil (fun y hy => by simp at hy)).mono ?_
    rw [acpE_result]
    rintro e w4 ⟨rfl, hb4⟩
    have br4 : Box w4 w.heap.size [.int .i64 0, .int .i64 0, .slice none 0 0, .bool false] 80 := by refine Box.mono ?_ hb4; exact (by repeat (first | (refine Box.at ?_; (simp; done)) | apply Box.drew | apply Box.alloc | assumption))
    have bp4 : Box w4 (w.heap.size + 1) [.int .i64 2, .int .i64 0, .slice none 0 0, .bool false] 80 := by refine Box.mono ?_ hb4; exact (by repeat (first | (refine Box.at ?_; (simp; done)) | apply Box.drew | apply Box.alloc | assumption))
    have hbw4 : Below w.heap.size w w4 := below_step (by repeat (first | assumption | exact Below.refl _ _ | apply bw_alloc | apply bw_drew | apply bw_drewN | apply bw_later | apply bw_step)) hb4
    have p0 := bp4.cell 0 rfl
    have p1 := bp4.cell 1 rfl
    have p2 := bp4.cell 2 rfl
    have p3 := bp4.cell 3 rfl
    have pl := bp4.lt
    have r0 := br4.cell 0 rfl
    have r1 := br4.cell 1 rfl
    have r2 := br4.cell 2 rfl
    have r3 := br4.cell 3 rfl
    have rl := br4.lt
    have rf := fun i => br4.free i
    obtain ⟨bx2, hg2⟩ := br4.store4 (.int .i64 2) (.int .i64 0) (.slice none 0 0) (.bool false)
    have q0 := bx2.cell 0 rfl
    have q1 := bx2.cell 1 rfl
    have q2 := bx2.cell 2 rfl
    have q3 := bx2.cell 3 rfl
    have hbw2 := hbw4.grown hg2 hbw4.size (fun k hk => by injection hk with hk; omega)
    go_wp2_with fail
    refine bodyPost_ret (v := .tuple #[agResult, .int .i64 0]) (by simp [results, Tryz.results274, go_sem, q0, q1, q2, q3, agResult]) rfl ⟨rfl, hbw2⟩

/-- The reader's block: the cells of a rule. -/
def rdr (kd : Int) (cl mt : ByteArray) (rt n : Int) (fs : Value) (st : Bool) (tg : ByteArray) : List Value := [.int .i64 kd, .string cl, .string mt, .int .i64 rt, .int .i64 n, fs, .bool st, .string tg]
theorem rdKind (w : World) (b : Nat) (cl mt tg : ByteArray) (rt n : Int) (fs : Value) (st : Bool) (kd : Int) (hb : Box w b (rdr kd cl mt rt n fs st tg) 296) :
    Calls Tryz.prog 203 #[.pointer (some ⟨b, 0, none⟩), .string bSource] w fun e w' => e = .returned (.int .i64 0) ∧ Box w' b (rdr 1 cl mt rt n fs st tg) 296 ∧ w.grownBy w' (some b) := by
  have c0 := hb.cell 0 rfl
  have bl := hb.lt
  have bf := fun i => hb.free i
  have bn := hb.set 0 (.int .i64 1)
  have bg := grown_set w b 0 (.int .i64 1)
  unfold bSource
  go_enter Tryz.func203, Tryz.ntmps203
  go_wp2_with fail
  go_ret
  exact ⟨rfl, bn, bg⟩
theorem rdClass (x : ByteArray) (w : World) (b : Nat) (cl mt tg : ByteArray) (rt n : Int) (fs : Value) (st : Bool) (kd : Int) (hb : Box w b (rdr kd cl mt rt n fs st tg) 296) :
    Calls Tryz.prog 204 #[.pointer (some ⟨b, 0, none⟩), .string x] w fun e w' => e = .returned (.int .i64 0) ∧ Box w' b (rdr kd x mt rt n fs st tg) 296 ∧ w.grownBy w' (some b) := by
  have c0 := hb.cell 1 rfl
  have bl := hb.lt
  have bf := fun i => hb.free i
  have bn := hb.set 1 (.string x)
  have bg := grown_set w b 1 (.string x)
  go_enter Tryz.func204, Tryz.ntmps204
  go_wp2_with fail
  go_ret
  exact ⟨rfl, bn, bg⟩
theorem rdMethod (x : ByteArray) (w : World) (b : Nat) (cl mt tg : ByteArray) (rt n : Int) (fs : Value) (st : Bool) (kd : Int) (hb : Box w b (rdr kd cl mt rt n fs st tg) 296) :
    Calls Tryz.prog 205 #[.pointer (some ⟨b, 0, none⟩), .string x] w fun e w' => e = .returned (.int .i64 0) ∧ Box w' b (rdr kd cl x rt n fs st tg) 296 ∧ w.grownBy w' (some b) := by
  have c0 := hb.cell 2 rfl
  have bl := hb.lt
  have bf := fun i => hb.free i
  have bn := hb.set 2 (.string x)
  have bg := grown_set w b 2 (.string x)
  go_enter Tryz.func205, Tryz.ntmps205
  go_wp2_with fail
  go_ret
  exact ⟨rfl, bn, bg⟩
theorem rdTag (x : ByteArray) (w : World) (b : Nat) (cl mt tg : ByteArray) (rt n : Int) (fs : Value) (st : Bool) (kd : Int) (hb : Box w b (rdr kd cl mt rt n fs st tg) 296) :
    Calls Tryz.prog 207 #[.pointer (some ⟨b, 0, none⟩), .string x] w fun e w' => e = .returned (.int .i64 0) ∧ Box w' b (rdr kd cl mt rt n fs st x) 296 ∧ w.grownBy w' (some b) := by
  have c0 := hb.cell 7 rfl
  have bl := hb.lt
  have bf := fun i => hb.free i
  have bn := hb.set 7 (.string x)
  have bg := grown_set w b 7 (.string x)
  go_enter Tryz.func207, Tryz.ntmps207
  go_wp2_with fail
  go_ret
  exact ⟨rfl, bn, bg⟩
set_option maxRecDepth 100000 in
theorem rdAt (w : World) (hg : Glob w) (b : Nat) (cl mt tg : ByteArray) (kd : Int) (hb : Box w b (rdr kd cl mt 0 0 (.slice none 0 0) false tg) 296) :
    Calls Tryz.prog 206 #[.pointer (some ⟨b, 0, none⟩), .string bResult] w fun e w' => e = .returned (.int .i64 0) ∧ Box w' b (rdr kd cl mt 2 0 (.slice none 0 0) false tg) 296 ∧ w.grownBy w' (some b) := by
  go_enter Tryz.func206, Tryz.ntmps206
  go_wp2_with fail
  refine (acpParse_result _ hg).mono ?_
  rintro e w1 ⟨rfl, hb1⟩
  have bx1 := hb.mono hb1
  have c0 := bx1.cell 3 rfl
  have c1 := bx1.cell 4 rfl
  have c2 := bx1.cell 5 rfl
  have c3 := bx1.cell 6 rfl
  have bl := bx1.lt
  have bf := fun i => bx1.free i
  have bn := (((bx1.set 3 (.int .i64 2)).set 4 (.int .i64 0)).set 5 (.slice none 0 0)).set 6 (.bool false)
  have bg := grown_trans (grown_trans (grown_trans (grown_set w1 b 3 (.int .i64 2)) (grown_set _ b 4 (.int .i64 0))) (grown_set _ b 5 (.slice none 0 0))) (grown_set _ b 6 (.bool false))
  have hg1 : w.grownBy w1 (some b) := ⟨hb1.os, hb1.tape, hb1.output, hb1.size, fun k hk _ => hb1.block k hk⟩
  unfold agResult
  go_wp2_with fail
  go_ret
  exact ⟨rfl, bn, grown_trans hg1 bg⟩
end Go.Proofs.YtmhdambkchlilaaGreatDoor
