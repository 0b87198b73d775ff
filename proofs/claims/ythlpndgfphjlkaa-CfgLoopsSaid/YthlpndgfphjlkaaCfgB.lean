/-
  Chapter 14: the reference's closed, raised; the program's handler.
-/
import Derived.Test.YthlpndgfphjlkaaCfgA
namespace Go.Proofs.Ythlpndgfphjlkaa
open Go.RowKit
set_option linter.unusedVariables false

theorem refRaises12_any (x : Ins) (A : Option Addr) (c : Nat) (w : World) :
    Calls Try.prog 77 #[.agg #[.int .i64 x.op, .int .i64 x.dst, .int .i64 x.a, .int .i64 x.b, .int .i64 x.n, .string x.cls, .string x.name, .slice A x.args.length c, .int .i64 x.jmp, .int .i64 x.hnd]] w fun e w' => e = .returned (.bool (raisesB x)) ∧ Below w.heap.size w w' := by
  by_cases h1 : x.op = 9 ∨ x.op = 10 ∨ x.op = 14 ∨ x.op = 15
  · have HE : Hid (raisesB x = true) := by show _ = _; unfold raisesB; rcases h1 with h | h | h | h <;> simp [h]
    rcases h1 with h | h | h | h
    all_goals (go_enter Try.func77, Try.ntmps77; go_wp2_with fail; go_ret; exact ⟨by rw [HE.out]; rfl, (by repeat (first | assumption | exact Below.refl _ _ | apply bw_alloc | apply bw_drew | apply bw_drewN | apply bw_later | apply bw_step))⟩)
  · have h9 : (x.op == 9) = false := by simpa using fun h => h1 (Or.inl h)
    have h10 : (x.op == 10) = false := by simpa using fun h => h1 (Or.inr (Or.inl h))
    have h14 : (x.op == 14) = false := by simpa using fun h => h1 (Or.inr (Or.inr (Or.inl h)))
    have h15 : (x.op == 15) = false := by simpa using fun h => h1 (Or.inr (Or.inr (Or.inr h)))
    have HE : Hid (raisesB x = false) := by show _ = _; unfold raisesB; simp at h9 h10 h14 h15; simp [h9, h10, h14, h15]
    clear h1
    go_enter Try.func77, Try.ntmps77
    go_wp2_with fail
    go_ret
    exact ⟨by rw [HE.out]; rfl, (by repeat (first | assumption | exact Below.refl _ _ | apply bw_alloc | apply bw_drew | apply bw_drewN | apply bw_later | apply bw_step))⟩
theorem refRaises_any (x : Ins) (A : Option Addr) (c : Nat) (w : World) :
    Calls Try.prog 54 #[.agg #[.int .i64 x.op, .int .i64 x.dst, .int .i64 x.a, .int .i64 x.b, .int .i64 x.n, .string x.cls, .string x.name, .slice A x.args.length c, .int .i64 x.jmp, .int .i64 x.hnd]] w fun e w' => e = .returned (.bool (raisesB x)) ∧ Below w.heap.size w w' := by
  go_enter Try.func54, Try.ntmps54
  go_wp2_with fail
  refine (refRaises12_any x A c _).mono ?_
  rintro e w1 ⟨rfl, hb1⟩
  go_wp2_with fail
  go_ret
  exact ⟨rfl, (by repeat (first | assumption | exact Below.refl _ _ | apply bw_alloc | apply bw_drew | apply bw_drewN | apply bw_later | apply bw_step))⟩

/-- The node that receives an exception. -/
def hndI (n : Nat) (x : Ins) : Int := if x.hnd = -1 then (n : Int) + 1 else x.hnd
theorem handler_any (c0 n0 : ByteArray) (s0 : Bool) (p0 : Int) (AV : Option Addr) (nV cV : Nat) (r0 : ByteArray) (AC : Option Addr) (cC : Nat) (code : List Ins) (i : Nat) (w : World) (hl : code.length ≤ 1024) (hi : i < code.length) (hs : Sl Lay.ins w AC code) :
    Calls Try.prog 24 #[.agg #[.string c0, .string n0, .bool s0, .int .i64 p0, .slice AV nV cV, .string r0, .slice AC code.length cC], .int .i64 i] w fun e w' => e = .returned (.int .i64 (hndI code.length code[i])) ∧ Below w.heap.size w w' := by
  have hb0 : Below w.heap.size w (w.alloc (.cells #[.string c0, .string n0, .bool s0, .int .i64 p0, .slice AV nV cV, .string r0, .slice AC code.length cC] 25)) := (by repeat (first | assumption | exact Below.refl _ _ | apply bw_alloc | apply bw_drew | apply bw_drewN | apply bw_later | apply bw_step))
  obtain ⟨b, o, A7, c7, eA, hb, d0, d1, d2, d3, d4, d5, d6, d7, d8, d9, hc7, hs7⟩ := hs.ins_at hi
  subst eA
  by_cases h : code[i].hnd = -1
  · have HE : Hid (hndI code.length code[i] = (code.length : Int) + 1) := if_pos h
    go_enter Try.func24, Try.ntmps24
    go_wp2_with fail
    go_ret
    exact ⟨by rw [HE.out]; rfl, hb0⟩
  · have HE : Hid (hndI code.length code[i] = code[i].hnd) := if_neg h
    have h' : (code[i].hnd != -1) = true := by simpa using h
    go_enter Try.func24, Try.ntmps24
    go_wp2_with fail
    go_ret
    exact ⟨by rw [HE.out]; rfl, hb0⟩
/-- As the reference says it. -/
def raisedI (n : Nat) (x : Ins) : Int := if raisesB x then (if 0 ≤ x.hnd then x.hnd else (n : Int) + 1) else -1
theorem raised_any (c0 n0 : ByteArray) (s0 : Bool) (p0 : Int) (AV : Option Addr) (nV cV : Nat) (r0 : ByteArray) (AC : Option Addr) (cC : Nat) (code : List Ins) (i : Nat) (w : World) (hl : code.length ≤ 1024) (hi : i < code.length) (hs : Sl Lay.ins w AC code) :
    Calls Try.prog 36 #[.agg #[.string c0, .string n0, .bool s0, .int .i64 p0, .slice AV nV cV, .string r0, .slice AC code.length cC], .int .i64 i] w fun e w' => e = .returned (.int .i64 (raisedI code.length code[i])) ∧ Below w.heap.size w w' := by
  have hb0 : Below w.heap.size w (w.alloc (.cells #[.string c0, .string n0, .bool s0, .int .i64 p0, .slice AV nV cV, .string r0, .slice AC code.length cC] 25)) := (by repeat (first | assumption | exact Below.refl _ _ | apply bw_alloc | apply bw_drew | apply bw_drewN | apply bw_later | apply bw_step))
  have bx0 := Box.new w [.string c0, .string n0, .bool s0, .int .i64 p0, .slice AV nV cV, .string r0, .slice AC code.length cC] 25
  obtain ⟨b, o, A7, c7, eA, hb, d0, d1, d2, d3, d4, d5, d6, d7, d8, d9, hc7, hs7⟩ := hs.ins_at hi
  subst eA
  go_enter Try.func36, Try.ntmps36
  go_wp2_with fail
  refine (refRaises_any code[i] A7 c7 _).mono ?_
  rintro e w1 ⟨rfl, hb1⟩
  have hbw := below_step hb0 hb1
  have bx := bx0.mono hb1
  have bl := bx.lt
  have x6 := bx.cell 6 rfl
  have hb' := Nat.lt_of_lt_of_le hb hbw.size
  have f9 := keptC d9 hb hbw
  cases hr : raisesB code[i] with
  | false =>
    have HE : Hid (raisedI code.length code[i] = -1) := by show _ = _; unfold raisedI; rw [hr]; rfl
    clear hr
    go_wp2_with fail
    go_ret
    exact ⟨by rw [HE.out]; rfl, hbw⟩
  | true =>
    by_cases h : 0 ≤ code[i].hnd
    · have HE : Hid (raisedI code.length code[i] = code[i].hnd) := by show _ = _; unfold raisedI; rw [hr, if_pos rfl, if_pos h]
      clear hr
      go_wp2_with fail
      go_ret
      exact ⟨by rw [HE.out]; rfl, hbw⟩
    · have HE : Hid (raisedI code.length code[i] = (code.length : Int) + 1) := by show _ = _; unfold raisedI; rw [hr, if_pos rfl, if_neg h]
      clear hr
      go_wp2_with fail
      go_ret
      exact ⟨by rw [HE.out]; rfl, hbw⟩
end Go.Proofs.Ythlpndgfphjlkaa
