/-
  Chapter 13: unusedZero by patterns (part 3).
-/
import Derived.Test.YtmhdambkchlilaaGreatDoorJUa
namespace Go.Proofs.YtmhdambkchlilaaGreatDoor
open Go.RowKit
set_option linter.unusedVariables false

end Go.Proofs.YtmhdambkchlilaaGreatDoor
