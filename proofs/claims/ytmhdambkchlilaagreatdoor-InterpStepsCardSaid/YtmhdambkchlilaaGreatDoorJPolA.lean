/- Chapter 42: the tags of a policy. -/
import Derived.Test.YtmhdambkchlilaaGreatDoorJGb
import Derived.Test.YtmhdambkchlilaaGreatDoorJGt
import Derived.Test.YtmhdambkchlilaaGreatDoorJGa
namespace Go.Proofs.YtmhdambkchlilaaGreatDoor
open Go.RowKit
set_option linter.unusedVariables false
end Go.Proofs.YtmhdambkchlilaaGreatDoor
