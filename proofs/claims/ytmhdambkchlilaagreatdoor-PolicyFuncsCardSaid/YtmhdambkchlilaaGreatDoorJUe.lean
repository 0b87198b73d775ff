/-
  Chapter 13: natural, variableName, isCatch, the closure of inRange: what they return.
  Chapter 13: controlled: what it returns.
-/
import Derived.Test.YtmhdambkchlilaaGreatDoorJUa
import Derived.Test.YtmhdambkchlilaaGreatDoorJLexB
namespace Go.Proofs.YtmhdambkchlilaaGreatDoor
open Go.RowKit
set_option linter.unusedVariables false

def digU (x : UInt8) : Bool := decide (48 ≤ x.toNat) && decide (x.toNat ≤ 57)
theorem toL_len' (s : ByteArray) : (toL s).length = s.size := by unfold toL; rw [Array.length_toList]; rfl
theorem toL_tail (s : ByteArray) : toL (s.extract 1 s.size) = (toL s).drop 1 := by
  unfold toL
  rw [ByteArray.data_extract, Array.toList_extract]
  have : s.data.toList.length = s.size := by rw [Array.length_toList]; rfl
  rw [List.extract_eq_take_drop, List.take_of_length_le (by rw [List.length_drop]; omega)]
end Go.Proofs.YtmhdambkchlilaaGreatDoor
namespace Go.Proofs.YtmhdambkchlilaaGreatDoor
open Go.RowKit
set_option linter.unusedVariables false

end Go.Proofs.YtmhdambkchlilaaGreatDoor
