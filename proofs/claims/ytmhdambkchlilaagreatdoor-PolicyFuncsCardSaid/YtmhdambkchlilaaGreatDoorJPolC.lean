/-
  Chapter 42: the check of a rule, in the program and in the reference.
-/
import Derived.Test.YtmhdambkchlilaaGreatDoorJPolB
namespace Go.Proofs.YtmhdambkchlilaaGreatDoor
open Go.RowKit
set_option linter.unusedVariables false

/-- A place that a rule may not have. -/
def badPlace (x : Rul) : Prop := (x.pth.root ≠ 1 ∧ x.pth.root ≠ 2) ∨ (x.pth.root = 2 ∧ x.kind = 2) ∨ ((0 < x.pth.fields.length ∨ x.pth.star = true) ∧ (x.pth.root = 2 ∨ x.kind = 3)) ∨ (x.pth.star = true ∧ x.pth.fields.length = 0)
instance (x : Rul) : Decidable (badPlace x) := by unfold badPlace; exact inferInstance
def rulE (x : Rul) : Int := if ¬ (x.kind = 1 ∨ x.kind = 2 ∨ x.kind = 3) then 12 else if !(identB x.cls && identB x.mth && identB x.tag) then 5 else if acpE x.pth ≠ 0 then acpE x.pth else if badPlace x then 16 else 0
def OkRul (x : Rul) : Prop := x.cls.size ≤ 9223372036854775807 ∧ x.mth.size ≤ 9223372036854775807 ∧ x.tag.size ≤ 9223372036854775807 ∧ x.pth.fields.length ≤ 9223372036854775807 ∧ OkStrs x.pth.fields

set_option maxRecDepth 100000 in
set_option maxHeartbeats 4000000 in
theorem checkRule_a (kd rt n : Int) (cl mt tg : ByteArray) (f : ByteArray) (fs : List ByteArray) (A : Option Addr) (c : Nat) (w : World) (hok : Hid (OkRul (⟨kd, cl, mt, ⟨rt, n, ([] : List ByteArray), false⟩, tg⟩ : Rul))) (hkw : KwX w) (hs : Sl Lay.str w A ([] : List ByteArray)) :
    Calls Tryz.prog 211 #[.agg #[.int .i64 kd, .string cl, .string mt, .int .i64 rt, .int .i64 n, .slice A ([] : List ByteArray).length c, .bool false, .string tg]] w fun e w' => e = .returned (.int .i64 (rulE (⟨kd, cl, mt, ⟨rt, n, ([] : List ByteArray), false⟩, tg⟩ : Rul))) ∧ Below w.heap.size w w' := by
  obtain ⟨r, HR⟩ : ∃ r, Hid (r = rulE (⟨kd, cl, mt, ⟨rt, n, ([] : List ByteArray), false⟩, tg⟩ : Rul)) := ⟨_, Lib.hid rfl⟩
  rw [← HR.out]
  obtain ⟨ok1, ok2, ok3, ok4, ok5⟩ := hok.out
  dsimp only at ok1 ok2 ok3 ok4 ok5
  replace ok5 := Lib.hid ok5
  have bx0 := Box.new w [.int .i64 kd, .string cl, .string mt, .int .i64 rt, .int .i64 n, .slice A ([] : List ByteArray).length c, .bool false, .string tg] 82
  have hb0 : Below w.heap.size w (w.alloc (.cells #[.int .i64 kd, .string cl, .string mt, .int .i64 rt, .int .i64 n, .slice A ([] : List ByteArray).length c, .bool false, .string tg] 82)) := (by repeat (first | assumption | exact Below.refl _ _ | apply bw_alloc | apply bw_drew | apply bw_drewN | apply bw_later | apply bw_step))
  have hkw0 := hkw.mono hb0
  have hs0 := hs.mono hb0
  have HC := Lib.hid (acpCheck_any ⟨rt, n, ([] : List ByteArray), false⟩ A c _ ok4 hkw0 hs0 ok5)
  dsimp only at HC
  obtain ⟨ae, HAE⟩ : ∃ ae, Hid (ae = acpE ⟨rt, n, ([] : List ByteArray), false⟩) := ⟨_, Lib.hid rfl⟩
  rw [← HAE.out] at HC
  go_enter Tryz.func211, Tryz.ntmps211
  go_wp2_with (first
    | (go_at_call 224; refine (ident_any _ _ (by first | exact ok1 | exact ok2 | exact ok3) hkw0).mono ?_; rintro e w1 ⟨rfl, rfl⟩)
    | (go_at_call 212; refine HC.out.mono ?_; rintro e w4 ⟨rfl, hb4⟩; have bx4 := bx0.mono hb4; have hbw4 := below_step hb0 hb4; have q0 := bx4.cell 0 rfl; have q1 := bx4.cell 1 rfl; have q2 := bx4.cell 2 rfl; have q3 := bx4.cell 3 rfl; have q4 := bx4.cell 4 rfl; have q5 := bx4.cell 5 rfl; have q6 := bx4.cell 6 rfl; have q7 := bx4.cell 7 rfl; have ql := bx4.lt))
  all_goals (go_ret; refine ⟨?_, by first | exact hb0 | exact hbw4⟩; rw [HR.out])
  all_goals (refine congrArg (fun z => Ending.returned (.int .i64 z)) ?_; have hA := HAE.out; clear HC HAE HR hok hkw hkw0 hs hs0 bx0 hb0; unfold rulE badPlace; dsimp only; rw [← hA]; clear hA)
  all_goals (simp_all <;> omega)
set_option maxRecDepth 100000 in
set_option maxHeartbeats 4000000 in
theorem checkRule_b (kd rt n : Int) (cl mt tg : ByteArray) (f : ByteArray) (fs : List ByteArray) (A : Option Addr) (c : Nat) (w : World) (hok : Hid (OkRul (⟨kd, cl, mt, ⟨rt, n, ([] : List ByteArray), true⟩, tg⟩ : Rul))) (hkw : KwX w) (hs : Sl Lay.str w A ([] : List ByteArray)) :
    Calls Tryz.prog 211 #[.agg #[.int .i64 kd, .string cl, .string mt, .int .i64 rt, .int .i64 n, .slice A ([] : List ByteArray).length c, .bool true, .string tg]] w fun e w' => e = .returned (.int .i64 (rulE (⟨kd, cl, mt, ⟨rt, n, ([] : List ByteArray), true⟩, tg⟩ : Rul))) ∧ Below w.heap.size w w' := by
  obtain ⟨r, HR⟩ : ∃ r, Hid (r = rulE (⟨kd, cl, mt, ⟨rt, n, ([] : List ByteArray), true⟩, tg⟩ : Rul)) := ⟨_, Lib.hid rfl⟩
  rw [← HR.out]
  obtain ⟨ok1, ok2, ok3, ok4, ok5⟩ := hok.out
  dsimp only at ok1 ok2 ok3 ok4 ok5
  replace ok5 := Lib.hid ok5
  have bx0 := Box.new w [.int .i64 kd, .string cl, .string mt, .int .i64 rt, .int .i64 n, .slice A ([] : List ByteArray).length c, .bool true, .string tg] 82
  have hb0 : Below w.heap.size w (w.alloc (.cells #[.int .i64 kd, .string cl, .string mt, .int .i64 rt, .int .i64 n, .slice A ([] : List ByteArray).length c, .bool true, .string tg] 82)) := (by repeat (first | assumption | exact Below.refl _ _ | apply bw_alloc | apply bw_drew | apply bw_drewN | apply bw_later | apply bw_step))
  have hkw0 := hkw.mono hb0
  have hs0 := hs.mono hb0
  have HC := Lib.hid (acpCheck_any ⟨rt, n, ([] : List ByteArray), true⟩ A c _ ok4 hkw0 hs0 ok5)
  dsimp only at HC
  obtain ⟨ae, HAE⟩ : ∃ ae, Hid (ae = acpE ⟨rt, n, ([] : List ByteArray), true⟩) := ⟨_, Lib.hid rfl⟩
  rw [← HAE.out] at HC
  go_enter Tryz.func211, Tryz.ntmps211
  go_wp2_with (first
    | (go_at_call 224; refine (ident_any _ _ (by first | exact ok1 | exact ok2 | exact ok3) hkw0).mono ?_; rintro e w1 ⟨rfl, rfl⟩)
    | (go_at_call 212; refine HC.out.mono ?_; rintro e w4 ⟨rfl, hb4⟩; have bx4 := bx0.mono hb4; have hbw4 := below_step hb0 hb4; have q0 := bx4.cell 0 rfl; have q1 := bx4.cell 1 rfl; have q2 := bx4.cell 2 rfl; have q3 := bx4.cell 3 rfl; have q4 := bx4.cell 4 rfl; have q5 := bx4.cell 5 rfl; have q6 := bx4.cell 6 rfl; have q7 := bx4.cell 7 rfl; have ql := bx4.lt))
  all_goals (go_ret; refine ⟨?_, by first | exact hb0 | exact hbw4⟩; rw [HR.out])
  all_goals (refine congrArg (fun z => Ending.returned (.int .i64 z)) ?_; have hA := HAE.out; clear HC HAE HR hok hkw hkw0 hs hs0 bx0 hb0; unfold rulE badPlace; dsimp only; rw [← hA]; clear hA)
  all_goals (simp_all <;> omega)
set_option maxRecDepth 100000 in
set_option maxHeartbeats 4000000 in
theorem checkRule_c (kd rt n : Int) (cl mt tg : ByteArray) (f : ByteArray) (fs : List ByteArray) (A : Option Addr) (c : Nat) (w : World) (hok : Hid (OkRul (⟨kd, cl, mt, ⟨rt, n, (f :: fs), false⟩, tg⟩ : Rul))) (hkw : KwX w) (hs : Sl Lay.str w A (f :: fs)) :
    Calls Tryz.prog 211 #[.agg #[.int .i64 kd, .string cl, .string mt, .int .i64 rt, .int .i64 n, .slice A (f :: fs).length c, .bool false, .string tg]] w fun e w' => e = .returned (.int .i64 (rulE (⟨kd, cl, mt, ⟨rt, n, (f :: fs), false⟩, tg⟩ : Rul))) ∧ Below w.heap.size w w' := by
  obtain ⟨r, HR⟩ : ∃ r, Hid (r = rulE (⟨kd, cl, mt, ⟨rt, n, (f :: fs), false⟩, tg⟩ : Rul)) := ⟨_, Lib.hid rfl⟩
  rw [← HR.out]
  obtain ⟨ok1, ok2, ok3, ok4, ok5⟩ := hok.out
  dsimp only at ok1 ok2 ok3 ok4 ok5
  replace ok5 := Lib.hid ok5
  have bx0 := Box.new w [.int .i64 kd, .string cl, .string mt, .int .i64 rt, .int .i64 n, .slice A (f :: fs).length c, .bool false, .string tg] 82
  have hb0 : Below w.heap.size w (w.alloc (.cells #[.int .i64 kd, .string cl, .string mt, .int .i64 rt, .int .i64 n, .slice A (f :: fs).length c, .bool false, .string tg] 82)) := (by repeat (first | assumption | exact Below.refl _ _ | apply bw_alloc | apply bw_drew | apply bw_drewN | apply bw_later | apply bw_step))
  have hkw0 := hkw.mono hb0
  have hs0 := hs.mono hb0
  have HC := Lib.hid (acpCheck_any ⟨rt, n, (f :: fs), false⟩ A c _ ok4 hkw0 hs0 ok5)
  dsimp only at HC
  obtain ⟨ae, HAE⟩ : ∃ ae, Hid (ae = acpE ⟨rt, n, (f :: fs), false⟩) := ⟨_, Lib.hid rfl⟩
  rw [← HAE.out] at HC
  go_enter Tryz.func211, Tryz.ntmps211
  go_wp2_with (first
    | (go_at_call 224; refine (ident_any _ _ (by first | exact ok1 | exact ok2 | exact ok3) hkw0).mono ?_; rintro e w1 ⟨rfl, rfl⟩)
    | (go_at_call 212; refine HC.out.mono ?_; rintro e w4 ⟨rfl, hb4⟩; have bx4 := bx0.mono hb4; have hbw4 := below_step hb0 hb4; have q0 := bx4.cell 0 rfl; have q1 := bx4.cell 1 rfl; have q2 := bx4.cell 2 rfl; have q3 := bx4.cell 3 rfl; have q4 := bx4.cell 4 rfl; have q5 := bx4.cell 5 rfl; have q6 := bx4.cell 6 rfl; have q7 := bx4.cell 7 rfl; have ql := bx4.lt))
  all_goals (go_ret; refine ⟨?_, by first | exact hb0 | exact hbw4⟩; rw [HR.out])
  all_goals (refine congrArg (fun z => Ending.returned (.int .i64 z)) ?_; have hA := HAE.out; clear HC HAE HR hok hkw hkw0 hs hs0 bx0 hb0; unfold rulE badPlace; dsimp only; rw [← hA]; clear hA)
  all_goals (simp_all <;> omega)
set_option maxRecDepth 100000 in
set_option maxHeartbeats 4000000 in
theorem checkRule_d (kd rt n : Int) (cl mt tg : ByteArray) (f : ByteArray) (fs : List ByteArray) (A : Option Addr) (c : Nat) (w : World) (hok : Hid (OkRul (⟨kd, cl, mt, ⟨rt, n, (f :: fs), true⟩, tg⟩ : Rul))) (hkw : KwX w) (hs : Sl Lay.str w A (f :: fs)) :
    Calls Tryz.prog 211 #[.agg #[.int .i64 kd, .string cl, .string mt, .int .i64 rt, .int .i64 n, .slice A (f :: fs).length c, .bool true, .string tg]] w fun e w' => e = .returned (.int .i64 (rulE (⟨kd, cl, mt, ⟨rt, n, (f :: fs), true⟩, tg⟩ : Rul))) ∧ Below w.heap.size w w' := by
  obtain ⟨r, HR⟩ : ∃ r, Hid (r = rulE (⟨kd, cl, mt, ⟨rt, n, (f :: fs), true⟩, tg⟩ : Rul)) := ⟨_, Lib.hid rfl⟩
  rw [← HR.out]
  obtain ⟨ok1, ok2, ok3, ok4, ok5⟩ := hok.out
  dsimp only at ok1 ok2 ok3 ok4 ok5
  replace ok5 := Lib.hid ok5
  have bx0 := Box.new w [.int .i64 kd, .string cl, .string mt, .int .i64 rt, .int .i64 n, .slice A (f :: fs).length c, .bool true, .string tg] 82
  have hb0 : Below w.heap.size w (w.alloc (.cells #[.int .i64 kd, .string cl, .string mt, .int .i64 rt, .int .i64 n, .slice A (f :: fs).length c, .bool true, .string tg] 82)) := (by repeat (first | assumption | exact Below.refl _ _ | apply bw_alloc | apply bw_drew | apply bw_drewN | apply bw_later | apply bw_step))
  have hkw0 := hkw.mono hb0
  have hs0 := hs.mono hb0
  have HC := Lib.hid (acpCheck_any ⟨rt, n, (f :: fs), true⟩ A c _ ok4 hkw0 hs0 ok5)
  dsimp only at HC
  obtain ⟨ae, HAE⟩ : ∃ ae, Hid (ae = acpE ⟨rt, n, (f :: fs), true⟩) := ⟨_, Lib.hid rfl⟩
  rw [← HAE.out] at HC
  go_enter Tryz.func211, Tryz.ntmps211
  go_wp2_with (first
    | (go_at_call 224; refine (ident_any _ _ (by first | exact ok1 | exact ok2 | exact ok3) hkw0).mono ?_; rintro e w1 ⟨rfl, rfl⟩)
    | (go_at_call 212; refine HC.out.mono ?_; rintro e w4 ⟨rfl, hb4⟩; have bx4 := bx0.mono hb4; have hbw4 := below_step hb0 hb4; have q0 := bx4.cell 0 rfl; have q1 := bx4.cell 1 rfl; have q2 := bx4.cell 2 rfl; have q3 := bx4.cell 3 rfl; have q4 := bx4.cell 4 rfl; have q5 := bx4.cell 5 rfl; have q6 := bx4.cell 6 rfl; have q7 := bx4.cell 7 rfl; have ql := bx4.lt))
  all_goals (go_ret; refine ⟨?_, by first | exact hb0 | exact hbw4⟩; rw [HR.out])
  all_goals (refine congrArg (fun z => Ending.returned (.int .i64 z)) ?_; have hA := HAE.out; clear HC HAE HR hok hkw hkw0 hs hs0 bx0 hb0; unfold rulE badPlace; dsimp only; rw [← hA]; clear hA)
  all_goals (simp_all <;> omega)
theorem checkRule_any (x : Rul) (A : Option Addr) (c : Nat) (w : World) (hok : Hid (OkRul x)) (hkw : KwX w) (hs : Sl Lay.str w A x.pth.fields) :
    Calls Tryz.prog 211 #[.agg #[.int .i64 x.kind, .string x.cls, .string x.mth, .int .i64 x.pth.root, .int .i64 x.pth.n, .slice A x.pth.fields.length c, .bool x.pth.star, .string x.tag]] w fun e w' => e = .returned (.int .i64 (rulE x)) ∧ Below w.heap.size w w' := by
  obtain ⟨kd, cl, mt, ⟨rt, n, fs, st⟩, tg⟩ := x
  dsimp only at hs ⊢
  cases fs with
  | nil => cases st with
    | false => exact checkRule_a kd rt n cl mt tg ⟨#[]⟩ [] A c w hok hkw hs
    | true => exact checkRule_b kd rt n cl mt tg ⟨#[]⟩ [] A c w hok hkw hs
  | cons f fs => cases st with
    | false => exact checkRule_c kd rt n cl mt tg f fs A c w hok hkw hs
    | true => exact checkRule_d kd rt n cl mt tg f fs A c w hok hkw hs
end Go.Proofs.YtmhdambkchlilaaGreatDoor
