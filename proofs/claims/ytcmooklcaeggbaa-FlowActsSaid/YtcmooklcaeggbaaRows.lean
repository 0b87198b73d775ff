/-
  No cell of these rows narrows 'for every input' (looked for: loops, veiled, ifaces, maps, wideKeys, modest, calm, conditions, laid).
  DERIVED. THE GIVEN ROWS OF THIS SEAT. 6 by the template 'for every input the law returns true; each argument reads behind the call as it read before'; 0 by the template 'total and deterministic' (their statements: YtcmooklcaeggbaaTotals.lean).
  GIVEN WITH THE SEED: the statements are not yours to turn. If you find one false, say at which input.
  Laid BY PROGRAM, IN A SANDBOX (cutbox-rows.mjs): the forced cells as the released guide's own fill.sh prints them over the translation 88096506371e1152… (all of the seat's roots in one cut). By AI agents, Wed Nov 11 2026. No macro, syntax, notation, axiom, sorry.
-/
import Derived.Test.YtcmooklcaeggbaaChecked
import GoSem.Claim
import GoSem.ClaimJoined
import GoSem.ClaimMapViews
import Derived.JoinedTies
import Derived.KernelRfl
namespace Go.Proofs.Ytcmooklcaeggbaa
/- THE CELL 'sum', in the pinned program and in every row, IS THE sha256 OF THE DUMP (.gsa) THAT YtcmooklcaeggbaaProg.lean LOADS. Nothing in Lean hashes anything: it is a label: what it is worth is what the hold of that sum in a sandbox is worth. -/
noncomputable def Try.pinned : Pinned := { name := "ytcmooklcaeggbaa", sum := "88096506371e1152e1975e83ce4d5149659bcc9e274893ede08c718c856b2e11", checked := Try.checked }
namespace Rows
def none {H : Type} : Left H := { results := [], args := [] }

/-- 'dataflowlaw29.FlowMake': WHATEVER THE INPUT: true; the input reads as it did. -/
def flowMakeSpec : ChangeSpec := { name := "flowMake", fn := fun _ => fun
  | [d1, d2, d3] => { results := [.lit (.bool true)], args := [d1, d2, d3] }
  | _ => none }
def flowMakeRow : OpenClaim := { program := "ytcmooklcaeggbaa", sum := "88096506371e1152e1975e83ce4d5149659bcc9e274893ede08c718c856b2e11", func := "dataflow/dataflowlaw29.FlowMake", spec := "flowMake", apart := false }
def FlowMakeSaid : Prop := flowMakeRow.holds Try.pinned (OpenSpec.ofChange flowMakeSpec)

/-- ITS FALSE NEIGHBOUR: 'it returns false'. Refute it at one input. -/
def flowMakeWrong : ChangeSpec := { name := "flowMake", fn := fun _ => fun
  | [d1, d2, d3] => { results := [.lit (.bool false)], args := [d1, d2, d3] }
  | _ => none }
def FlowMakeWrongFalsely : Prop := flowMakeRow.holds Try.pinned (OpenSpec.ofChange flowMakeWrong)

/-- 'dataflowlaw29.FlowCheck': WHATEVER THE INPUT: true; the input reads as it did. -/
def flowCheckSpec : ChangeSpec := { name := "flowCheck", fn := fun _ => fun
  | [d1, d2, d3] => { results := [.lit (.bool true)], args := [d1, d2, d3] }
  | _ => none }
def flowCheckRow : OpenClaim := { program := "ytcmooklcaeggbaa", sum := "88096506371e1152e1975e83ce4d5149659bcc9e274893ede08c718c856b2e11", func := "dataflow/dataflowlaw29.FlowCheck", spec := "flowCheck", apart := false }
def FlowCheckSaid : Prop := flowCheckRow.holds Try.pinned (OpenSpec.ofChange flowCheckSpec)

/-- ITS FALSE NEIGHBOUR: 'it returns false'. Refute it at one input. -/
def flowCheckWrong : ChangeSpec := { name := "flowCheck", fn := fun _ => fun
  | [d1, d2, d3] => { results := [.lit (.bool false)], args := [d1, d2, d3] }
  | _ => none }
def FlowCheckWrongFalsely : Prop := flowCheckRow.holds Try.pinned (OpenSpec.ofChange flowCheckWrong)

/-- 'dataflowlaw29.FlowApply': WHATEVER THE INPUT: true; the input reads as it did. -/
def flowApplySpec : ChangeSpec := { name := "flowApply", fn := fun _ => fun
  | [d1, d2] => { results := [.lit (.bool true)], args := [d1, d2] }
  | _ => none }
def flowApplyRow : OpenClaim := { program := "ytcmooklcaeggbaa", sum := "88096506371e1152e1975e83ce4d5149659bcc9e274893ede08c718c856b2e11", func := "dataflow/dataflowlaw29.FlowApply", spec := "flowApply", recurses := true, apart := false }
def FlowApplySaid : Prop := flowApplyRow.holds Try.pinned (OpenSpec.ofChange flowApplySpec)

/-- ITS FALSE NEIGHBOUR: 'it returns false'. Refute it at one input. -/
def flowApplyWrong : ChangeSpec := { name := "flowApply", fn := fun _ => fun
  | [d1, d2] => { results := [.lit (.bool false)], args := [d1, d2] }
  | _ => none }
def FlowApplyWrongFalsely : Prop := flowApplyRow.holds Try.pinned (OpenSpec.ofChange flowApplyWrong)

/-- 'dataflowlaw29.FlowMonoid': WHATEVER THE INPUT: true; the input reads as it did. -/
def flowMonoidSpec : ChangeSpec := { name := "flowMonoid", fn := fun _ => fun
  | [d1, d2, d3] => { results := [.lit (.bool true)], args := [d1, d2, d3] }
  | _ => none }
def flowMonoidRow : OpenClaim := { program := "ytcmooklcaeggbaa", sum := "88096506371e1152e1975e83ce4d5149659bcc9e274893ede08c718c856b2e11", func := "dataflow/dataflowlaw29.FlowMonoid", spec := "flowMonoid", unfollowed := true, recurses := true, apart := false }
def FlowMonoidSaid : Prop := flowMonoidRow.holds Try.pinned (OpenSpec.ofChange flowMonoidSpec)

/-- ITS FALSE NEIGHBOUR: 'it returns false'. Refute it at one input. -/
def flowMonoidWrong : ChangeSpec := { name := "flowMonoid", fn := fun _ => fun
  | [d1, d2, d3] => { results := [.lit (.bool false)], args := [d1, d2, d3] }
  | _ => none }
def FlowMonoidWrongFalsely : Prop := flowMonoidRow.holds Try.pinned (OpenSpec.ofChange flowMonoidWrong)

/-- 'dataflowlaw29.FlowCompose': WHATEVER THE INPUT: true; the input reads as it did. -/
def flowComposeSpec : ChangeSpec := { name := "flowCompose", fn := fun _ => fun
  | [d1, d2] => { results := [.lit (.bool true)], args := [d1, d2] }
  | _ => none }
def flowComposeRow : OpenClaim := { program := "ytcmooklcaeggbaa", sum := "88096506371e1152e1975e83ce4d5149659bcc9e274893ede08c718c856b2e11", func := "dataflow/dataflowlaw29.FlowCompose", spec := "flowCompose", unfollowed := true, recurses := true, apart := false }
def FlowComposeSaid : Prop := flowComposeRow.holds Try.pinned (OpenSpec.ofChange flowComposeSpec)

/-- ITS FALSE NEIGHBOUR: 'it returns false'. Refute it at one input. -/
def flowComposeWrong : ChangeSpec := { name := "flowCompose", fn := fun _ => fun
  | [d1, d2] => { results := [.lit (.bool false)], args := [d1, d2] }
  | _ => none }
def FlowComposeWrongFalsely : Prop := flowComposeRow.holds Try.pinned (OpenSpec.ofChange flowComposeWrong)

/-- 'dataflowlaw29.FlowActs': WHATEVER THE INPUT: true; the input reads as it did. -/
def flowActsSpec : ChangeSpec := { name := "flowActs", fn := fun _ => fun
  | [d1, d2, d3] => { results := [.lit (.bool true)], args := [d1, d2, d3] }
  | _ => none }
def flowActsRow : OpenClaim := { program := "ytcmooklcaeggbaa", sum := "88096506371e1152e1975e83ce4d5149659bcc9e274893ede08c718c856b2e11", func := "dataflow/dataflowlaw29.FlowActs", spec := "flowActs", unfollowed := true, recurses := true, apart := false }
def FlowActsSaid : Prop := flowActsRow.holds Try.pinned (OpenSpec.ofChange flowActsSpec)

/-- ITS FALSE NEIGHBOUR: 'it returns false'. Refute it at one input. -/
def flowActsWrong : ChangeSpec := { name := "flowActs", fn := fun _ => fun
  | [d1, d2, d3] => { results := [.lit (.bool false)], args := [d1, d2, d3] }
  | _ => none }
def FlowActsWrongFalsely : Prop := flowActsRow.holds Try.pinned (OpenSpec.ofChange flowActsWrong)

/- THE SECOND FORM. 'bulk': how many values and letters a reading holds, each counted each time it is reached (what is shared counts as often as it is met; a slice's spare places count too). A statement '..UptoSaid' is the law's where the arguments, and the package variables that the reading takes, are together of bulk at most 1048576: NARROWER than '..Said'. Prove '..Said' where nothing that the law and all that it calls make is longer than what came in: it says more and counts as full. Else prove '..UptoSaid'. A law counts once. -/
mutual
def uptoBulk {H : Type} : DataW H → Nat
  | .lit (.string bytes) => bytes.length + 1
  | .lit _ => 1
  | .nil => 1
  | .ptr d => uptoBulk d + 1
  | .slice elems spare => uptoBulkAll elems + uptoBulkAll spare + 1
  | .agg parts => uptoBulkAll parts + 1
  | .iface _ d => uptoBulk d + 1
  | .map entries => uptoBulkEntries entries + 1
  | .held _ => 1
def uptoBulkAll {H : Type} : List (DataW H) → Nat
  | [] => 0
  | d :: r => uptoBulk d + uptoBulkAll r
def uptoBulkEntries {H : Type} : List (Lit × DataW H) → Nat
  | [] => 0
  | x :: r => uptoBulkEntry x + uptoBulkEntries r
def uptoBulkEntry {H : Type} : Lit × DataW H → Nat
  | (.string bytes, d) => bytes.length + uptoBulk d + 1
  | (_, d) => uptoBulk d + 1
 end
def uptoSmall : (H : Type) → List (DataW H) → Bool := fun _ ds => decide (uptoBulkAll ds ≤ 1048576)
def OpenSpec.upto (s : _root_.Go.ChangeSpec) : _root_.Go.OpenSpec := { _root_.Go.OpenSpec.ofChange s with cond := some uptoSmall }

/-- 'dataflowlaw29.FlowMake', WHERE WHAT IT READS IS OF BULK AT MOST 1048576: true; the input reads as it did. -/
def flowMakeUptoRow : OpenClaim := { program := "ytcmooklcaeggbaa", sum := "88096506371e1152e1975e83ce4d5149659bcc9e274893ede08c718c856b2e11", func := "dataflow/dataflowlaw29.FlowMake", spec := "flowMake", apart := false, narrowed := true }
def FlowMakeUptoSaid : Prop := flowMakeUptoRow.holds Try.pinned (OpenSpec.upto flowMakeSpec)

/-- 'dataflowlaw29.FlowCheck', WHERE WHAT IT READS IS OF BULK AT MOST 1048576: true; the input reads as it did. -/
def flowCheckUptoRow : OpenClaim := { program := "ytcmooklcaeggbaa", sum := "88096506371e1152e1975e83ce4d5149659bcc9e274893ede08c718c856b2e11", func := "dataflow/dataflowlaw29.FlowCheck", spec := "flowCheck", apart := false, narrowed := true }
def FlowCheckUptoSaid : Prop := flowCheckUptoRow.holds Try.pinned (OpenSpec.upto flowCheckSpec)

/-- 'dataflowlaw29.FlowApply', WHERE WHAT IT READS IS OF BULK AT MOST 1048576: true; the input reads as it did. -/
def flowApplyUptoRow : OpenClaim := { program := "ytcmooklcaeggbaa", sum := "88096506371e1152e1975e83ce4d5149659bcc9e274893ede08c718c856b2e11", func := "dataflow/dataflowlaw29.FlowApply", spec := "flowApply", recurses := true, apart := false, narrowed := true }
def FlowApplyUptoSaid : Prop := flowApplyUptoRow.holds Try.pinned (OpenSpec.upto flowApplySpec)

/-- 'dataflowlaw29.FlowMonoid', WHERE WHAT IT READS IS OF BULK AT MOST 1048576: true; the input reads as it did. -/
def flowMonoidUptoRow : OpenClaim := { program := "ytcmooklcaeggbaa", sum := "88096506371e1152e1975e83ce4d5149659bcc9e274893ede08c718c856b2e11", func := "dataflow/dataflowlaw29.FlowMonoid", spec := "flowMonoid", unfollowed := true, recurses := true, apart := false, narrowed := true }
def FlowMonoidUptoSaid : Prop := flowMonoidUptoRow.holds Try.pinned (OpenSpec.upto flowMonoidSpec)

/-- 'dataflowlaw29.FlowCompose', WHERE WHAT IT READS IS OF BULK AT MOST 1048576: true; the input reads as it did. -/
def flowComposeUptoRow : OpenClaim := { program := "ytcmooklcaeggbaa", sum := "88096506371e1152e1975e83ce4d5149659bcc9e274893ede08c718c856b2e11", func := "dataflow/dataflowlaw29.FlowCompose", spec := "flowCompose", unfollowed := true, recurses := true, apart := false, narrowed := true }
def FlowComposeUptoSaid : Prop := flowComposeUptoRow.holds Try.pinned (OpenSpec.upto flowComposeSpec)

/-- 'dataflowlaw29.FlowActs', WHERE WHAT IT READS IS OF BULK AT MOST 1048576: true; the input reads as it did. -/
def flowActsUptoRow : OpenClaim := { program := "ytcmooklcaeggbaa", sum := "88096506371e1152e1975e83ce4d5149659bcc9e274893ede08c718c856b2e11", func := "dataflow/dataflowlaw29.FlowActs", spec := "flowActs", unfollowed := true, recurses := true, apart := false, narrowed := true }
def FlowActsUptoSaid : Prop := flowActsUptoRow.holds Try.pinned (OpenSpec.upto flowActsSpec)

end Rows
end Go.Proofs.Ytcmooklcaeggbaa
