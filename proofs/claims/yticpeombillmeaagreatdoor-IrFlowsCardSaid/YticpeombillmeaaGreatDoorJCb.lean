/-
  Chapter 14: closed functions, and which instructions raise.
  Chapter 14: the reference's closed, raised; the program's handler.
  Chapter 14: the reference's closed.
  Chapters 13, 14: the instructions that follow an instruction of a closed code: the reference.
  Chapter 14: the reference's normal.
-/
import Derived.Test.YticpeombillmeaaGreatDoorJGt
import Derived.Test.YticpeombillmeaaGreatDoorJGa
namespace Go.Proofs.YticpeombillmeaaGreatDoor
open Go.RowKit
set_option linter.unusedVariables false

/-- An instruction that leads out of a code of n instructions. -/
def badI (n : Nat) (x : Ins) : Prop := ((x.op = 11 ∨ x.op = 12) ∧ (x.jmp < 0 ∨ (n : Int) ≤ x.jmp)) ∨ x.hnd < -1 ∨ (n : Int) ≤ x.hnd
instance (n : Nat) (x : Ins) : Decidable (badI n x) := by unfold badI; exact inferInstance
def endI (x : Ins) : Prop := x.op = 12 ∨ x.op = 13 ∨ x.op = 14
instance (x : Ins) : Decidable (endI x) := by unfold endI; exact inferInstance
def Closed (code : List Ins) : Prop := (∀ i (h : i < code.length), ¬ badI code.length code[i]) ∧ ∀ h : 0 < code.length, endI (code[code.length - 1]'(by omega))
instance (code : List Ins) : Decidable (Closed code) := by
  unfold Closed
  exact inferInstanceAs (Decidable (_ ∧ _))
def raisesB (x : Ins) : Bool := decide (x.op = 9) || decide (x.op = 10) || decide (x.op = 14) || decide (x.op = 15)

theorem raises_any (x : Ins) (A : Option Addr) (c : Nat) (w : World) :
    Calls Tryz.prog 30 #[.agg #[.int .i64 x.op, .int .i64 x.dst, .int .i64 x.a, .int .i64 x.b, .int .i64 x.n, .string x.cls, .string x.name, .slice A x.args.length c, .int .i64 x.jmp, .int .i64 x.hnd]] w fun e w' => e = .returned (.bool (raisesB x)) ∧ Below w.heap.size w w' := by
  by_cases h1 : x.op = 9 ∨ x.op = 10 ∨ x.op = 14 ∨ x.op = 15
  · have HE : Hid (raisesB x = true) := by show _ = _; unfold raisesB; rcases h1 with h | h | h | h <;> simp [h]
    rcases h1 with h | h | h | h
    all_goals (go_enter Tryz.func30, Tryz.ntmps30; go_wp2_with fail; go_ret; exact ⟨by rw [HE.out]; rfl, (by repeat (first | assumption | exact Below.refl _ _ | apply bw_alloc | apply bw_drew | apply bw_drewN | apply bw_later | apply bw_step))⟩)
  · have h9 : x.op ≠ 9 := fun h => h1 (Or.inl h)
    have h10 : x.op ≠ 10 := fun h => h1 (Or.inr (Or.inl h))
    have h14 : x.op ≠ 14 := fun h => h1 (Or.inr (Or.inr (Or.inl h)))
    have h15 : x.op ≠ 15 := fun h => h1 (Or.inr (Or.inr (Or.inr h)))
    have HE : Hid (raisesB x = false) := by show _ = _; unfold raisesB; simp [h9, h10, h14, h15]
    clear h1
    go_enter Tryz.func30, Tryz.ntmps30
    go_wp2_with fail
    go_ret
    exact ⟨by rw [HE.out]; rfl, (by repeat (first | assumption | exact Below.refl _ _ | apply bw_alloc | apply bw_drew | apply bw_drewN | apply bw_later | apply bw_step))⟩
end Go.Proofs.YticpeombillmeaaGreatDoor
namespace Go.Proofs.YticpeombillmeaaGreatDoor
open Go.RowKit
set_option linter.unusedVariables false

end Go.Proofs.YticpeombillmeaaGreatDoor
namespace Go.Proofs.YticpeombillmeaaGreatDoor
open Go.RowKit
set_option linter.unusedVariables false

end Go.Proofs.YticpeombillmeaaGreatDoor
namespace Go.Proofs.YticpeombillmeaaGreatDoor
open Go.RowKit
set_option linter.unusedVariables false

theorem intTy : ElemTy Tryz.prog 44 3 1 8 (.int .i64 0) := ⟨Tryz.underlying44, by kernel_rfl, rfl, by omega⟩
/-- Where control goes on normally within the code, ascending. -/
def nextL (i : Nat) (x : Ins) : List Int :=
  if x.op = 13 ∨ x.op = 14 then [] else if x.op = 12 then [x.jmp] else if x.op = 11 then
    (if x.jmp = (i : Int) + 1 then [x.jmp] else if x.jmp < (i : Int) + 1 then [x.jmp, (i : Int) + 1] else [(i : Int) + 1, x.jmp]) else [(i : Int) + 1]
/-- What closedness says of one instruction. -/
structure ClosedAt (n i : Nat) (x : Ins) : Prop where
  jmp : x.op = 11 ∨ x.op = 12 → 0 ≤ x.jmp ∧ x.jmp < n
  hnd : -1 ≤ x.hnd ∧ x.hnd < n
  next : ¬ endI x → i + 1 < n
theorem Closed.at {code : List Ins} (h : Closed code) {i : Nat} (hi : i < code.length) : ClosedAt code.length i code[i] where
  jmp := fun h1 => by
    have := h.1 i hi
    unfold badI at this
    refine ⟨Int.not_lt.1 fun h2 => this (Or.inl ⟨h1, Or.inl h2⟩), Int.not_le.1 fun h2 => this (Or.inl ⟨h1, Or.inr h2⟩)⟩
  hnd := by
    have := h.1 i hi
    unfold badI at this
    refine ⟨Int.not_lt.1 fun h2 => this (Or.inr (Or.inl h2)), Int.not_le.1 fun h2 => this (Or.inr (Or.inr h2))⟩
  next := fun h1 => by
    have h2 := h.2 (by omega)
    by_cases e : i + 1 < code.length
    · exact e
    · have : code.length - 1 = i := by omega
      simp only [this] at h2
      exact absurd h2 h1

def RetOwn (w w' : World) (l : List Int) (e : Ending) : Prop := ∃ v, e = .returned v ∧ Own cellsInt 1 w.heap.size 3 w' v l
end Go.Proofs.YticpeombillmeaaGreatDoor
namespace Go.Proofs.YticpeombillmeaaGreatDoor
open Go.RowKit
set_option linter.unusedVariables false

end Go.Proofs.YticpeombillmeaaGreatDoor
