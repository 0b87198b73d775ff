/-
  Chapter 10: the check of a method: what it returns.
  Chapter 10: the check of a class, and of a hierarchy: what they return.
-/
import Derived.Test.YtmhdambkchlilaaGreatDoorJGc
namespace Go.Proofs.YtmhdambkchlilaaGreatDoor
open Go.RowKit
set_option linter.unusedVariables false

end Go.Proofs.YtmhdambkchlilaaGreatDoor
namespace Go.Proofs.YtmhdambkchlilaaGreatDoor
open Go.RowKit
set_option linter.unusedVariables false

end Go.Proofs.YtmhdambkchlilaaGreatDoor
