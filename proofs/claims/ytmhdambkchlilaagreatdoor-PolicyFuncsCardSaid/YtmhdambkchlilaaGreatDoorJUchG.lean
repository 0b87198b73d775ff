/-
  Chapter 13: inRange: what it returns.
-/
import Derived.Test.YtmhdambkchlilaaGreatDoorJUe
namespace Go.Proofs.YtmhdambkchlilaaGreatDoor
open Go.RowKit
set_option linter.unusedVariables false

def rgD (n : Nat) (c : Ins) : Bool := usesB c.op 100 && !varB n c.dst && (!usesB c.op 42 || c.dst != -1)
def rgA (n : Nat) (c : Ins) : Bool := usesB c.op 97 && !varB n c.a && (c.op != 13 || c.a != -1)
def rgB (n : Nat) (c : Ins) : Bool := usesB c.op 98 && !varB n c.b
def rgG (k : Nat) (c : Ins) : Bool := usesB c.op 103 && (decide (c.jmp < 0) || decide ((k : Int) ≤ c.jmp))
theorem rangeB_def (n : Nat) (code : List Ins) (c : Ins) : rangeB n code c = (!rgD n c && !rgA n c && !rgB n c && c.args.all (varB n) && !rgG code.length c && (c.hnd == -1 || isCat code c.hnd)) := by
  unfold rangeB rgD rgA rgB rgG
  have e : ∀ a b : Int, decide (a ≠ b) = (a != b) := fun a b => by cases h : a != b <;> simp_all
  have e2 : ∀ a b : Int, decide (a = b) = (a == b) := fun a b => by cases h : a == b <;> simp_all
  rw [e, e, e, e2]
end Go.Proofs.YtmhdambkchlilaaGreatDoor
