/-
  Chapter 13: unusedZero: what it returns.
-/
import Derived.Test.YtmhdambkchlilaaGreatDoorJUchD1
import Derived.Test.YtmhdambkchlilaaGreatDoorJUchD2
import Derived.Test.YtmhdambkchlilaaGreatDoorJUchD3
namespace Go.Proofs.YtmhdambkchlilaaGreatDoor
open Go.RowKit
set_option linter.unusedVariables false

end Go.Proofs.YtmhdambkchlilaaGreatDoor
