/-
  No cell of these rows narrows 'for every input' (looked for: loops, veiled, ifaces, maps, wideKeys, modest, calm, conditions, laid).
  DERIVED. THE GIVEN ROWS OF THIS SEAT. 3 by the template 'for every input the law returns true; each argument reads behind the call as it read before'; 0 by the template 'total and deterministic' (their statements: YthlpndgfphjlkaaTotals.lean).
  GIVEN WITH THE SEED: the statements are not yours to turn. If you find one false, say at which input.
  Laid BY PROGRAM, IN A SANDBOX (cutbox-rows.mjs): the forced cells as the released guide's own fill.sh prints them over the translation b90f38f9b2030a71… (all of the seat's roots in one cut). By AI agents, Wed Nov 11 2026. No macro, syntax, notation, axiom, sorry.
-/
import Derived.Test.YthlpndgfphjlkaaChecked
import GoSem.Claim
import GoSem.ClaimJoined
import GoSem.ClaimMapViews
import Derived.JoinedTies
import Derived.KernelRfl
namespace Go.Proofs.Ythlpndgfphjlkaa
/- THE CELL 'sum', in the pinned program and in every row, IS THE sha256 OF THE DUMP (.gsa) THAT YthlpndgfphjlkaaProg.lean LOADS. Nothing in Lean hashes anything: it is a label: what it is worth is what the hold of that sum in a sandbox is worth. -/
noncomputable def Try.pinned : Pinned := { name := "ythlpndgfphjlkaa", sum := "b90f38f9b2030a715a803c895d05e25049556acdee03a037e0014afec40b3dde", checked := Try.checked }
namespace Rows
def none {H : Type} : Left H := { results := [], args := [] }

/-- 'dataflowlaw14.CfgGraph': WHATEVER THE INPUT: true; the input reads as it did. -/
def cfgGraphSpec : ChangeSpec := { name := "cfgGraph", fn := fun _ => fun
  | [d] => { results := [.lit (.bool true)], args := [d] }
  | _ => none }
def cfgGraphRow : OpenClaim := { program := "ythlpndgfphjlkaa", sum := "b90f38f9b2030a715a803c895d05e25049556acdee03a037e0014afec40b3dde", func := "dataflow/dataflowlaw14.CfgGraph", spec := "cfgGraph", unfollowed := true, recurses := true, apart := false }
def CfgGraphSaid : Prop := cfgGraphRow.holds Try.pinned (OpenSpec.ofChange cfgGraphSpec)

/-- ITS FALSE NEIGHBOUR: 'it returns false'. Refute it at one input. -/
def cfgGraphWrong : ChangeSpec := { name := "cfgGraph", fn := fun _ => fun
  | [d] => { results := [.lit (.bool false)], args := [d] }
  | _ => none }
def CfgGraphWrongFalsely : Prop := cfgGraphRow.holds Try.pinned (OpenSpec.ofChange cfgGraphWrong)

/-- 'dataflowlaw14.CfgLoops': WHATEVER THE INPUT: true; the input reads as it did. -/
def cfgLoopsSpec : ChangeSpec := { name := "cfgLoops", fn := fun _ => fun
  | [d] => { results := [.lit (.bool true)], args := [d] }
  | _ => none }
def cfgLoopsRow : OpenClaim := { program := "ythlpndgfphjlkaa", sum := "b90f38f9b2030a715a803c895d05e25049556acdee03a037e0014afec40b3dde", func := "dataflow/dataflowlaw14.CfgLoops", spec := "cfgLoops", unfollowed := true, recurses := true, apart := false }
def CfgLoopsSaid : Prop := cfgLoopsRow.holds Try.pinned (OpenSpec.ofChange cfgLoopsSpec)

/-- ITS FALSE NEIGHBOUR: 'it returns false'. Refute it at one input. -/
def cfgLoopsWrong : ChangeSpec := { name := "cfgLoops", fn := fun _ => fun
  | [d] => { results := [.lit (.bool false)], args := [d] }
  | _ => none }
def CfgLoopsWrongFalsely : Prop := cfgLoopsRow.holds Try.pinned (OpenSpec.ofChange cfgLoopsWrong)

/-- 'dataflowlaw14.CfgLive': WHATEVER THE INPUT: true; the input reads as it did. -/
def cfgLiveSpec : ChangeSpec := { name := "cfgLive", fn := fun _ => fun
  | [d1, d2] => { results := [.lit (.bool true)], args := [d1, d2] }
  | _ => none }
def cfgLiveRow : OpenClaim := { program := "ythlpndgfphjlkaa", sum := "b90f38f9b2030a715a803c895d05e25049556acdee03a037e0014afec40b3dde", func := "dataflow/dataflowlaw14.CfgLive", spec := "cfgLive", unfollowed := true, recurses := true, apart := false }
def CfgLiveSaid : Prop := cfgLiveRow.holds Try.pinned (OpenSpec.ofChange cfgLiveSpec)

/-- ITS FALSE NEIGHBOUR: 'it returns false'. Refute it at one input. -/
def cfgLiveWrong : ChangeSpec := { name := "cfgLive", fn := fun _ => fun
  | [d1, d2] => { results := [.lit (.bool false)], args := [d1, d2] }
  | _ => none }
def CfgLiveWrongFalsely : Prop := cfgLiveRow.holds Try.pinned (OpenSpec.ofChange cfgLiveWrong)

/- THE SECOND FORM. 'bulk': how many values and letters a reading holds, each counted each time it is reached (what is shared counts as often as it is met; a slice's spare places count too). A statement '..UptoSaid' is the law's where the arguments, and the package variables that the reading takes, are together of bulk at most 1048576: NARROWER than '..Said'. Prove '..Said' where nothing that the law and all that it calls make is longer than what came in: it says more and counts as full. Else prove '..UptoSaid'. A law counts once. -/
mutual
def uptoBulk {H : Type} : DataW H → Nat
  | .lit (.string bytes) => bytes.length + 1
  | .lit _ => 1
  | .nil => 1
  | .ptr d => uptoBulk d + 1
  | .slice elems spare => uptoBulkAll elems + uptoBulkAll spare + 1
  | .agg parts => uptoBulkAll parts + 1
  | .iface _ d => uptoBulk d + 1
  | .map entries => uptoBulkEntries entries + 1
  | .held _ => 1
def uptoBulkAll {H : Type} : List (DataW H) → Nat
  | [] => 0
  | d :: r => uptoBulk d + uptoBulkAll r
def uptoBulkEntries {H : Type} : List (Lit × DataW H) → Nat
  | [] => 0
  | x :: r => uptoBulkEntry x + uptoBulkEntries r
def uptoBulkEntry {H : Type} : Lit × DataW H → Nat
  | (.string bytes, d) => bytes.length + uptoBulk d + 1
  | (_, d) => uptoBulk d + 1
 end
def uptoSmall : (H : Type) → List (DataW H) → Bool := fun _ ds => decide (uptoBulkAll ds ≤ 1048576)
def OpenSpec.upto (s : _root_.Go.ChangeSpec) : _root_.Go.OpenSpec := { _root_.Go.OpenSpec.ofChange s with cond := some uptoSmall }

/-- 'dataflowlaw14.CfgGraph', WHERE WHAT IT READS IS OF BULK AT MOST 1048576: true; the input reads as it did. -/
def cfgGraphUptoRow : OpenClaim := { program := "ythlpndgfphjlkaa", sum := "b90f38f9b2030a715a803c895d05e25049556acdee03a037e0014afec40b3dde", func := "dataflow/dataflowlaw14.CfgGraph", spec := "cfgGraph", unfollowed := true, recurses := true, apart := false, narrowed := true }
def CfgGraphUptoSaid : Prop := cfgGraphUptoRow.holds Try.pinned (OpenSpec.upto cfgGraphSpec)

/-- 'dataflowlaw14.CfgLoops', WHERE WHAT IT READS IS OF BULK AT MOST 1048576: true; the input reads as it did. -/
def cfgLoopsUptoRow : OpenClaim := { program := "ythlpndgfphjlkaa", sum := "b90f38f9b2030a715a803c895d05e25049556acdee03a037e0014afec40b3dde", func := "dataflow/dataflowlaw14.CfgLoops", spec := "cfgLoops", unfollowed := true, recurses := true, apart := false, narrowed := true }
def CfgLoopsUptoSaid : Prop := cfgLoopsUptoRow.holds Try.pinned (OpenSpec.upto cfgLoopsSpec)

/-- 'dataflowlaw14.CfgLive', WHERE WHAT IT READS IS OF BULK AT MOST 1048576: true; the input reads as it did. -/
def cfgLiveUptoRow : OpenClaim := { program := "ythlpndgfphjlkaa", sum := "b90f38f9b2030a715a803c895d05e25049556acdee03a037e0014afec40b3dde", func := "dataflow/dataflowlaw14.CfgLive", spec := "cfgLive", unfollowed := true, recurses := true, apart := false, narrowed := true }
def CfgLiveUptoSaid : Prop := cfgLiveUptoRow.holds Try.pinned (OpenSpec.upto cfgLiveSpec)

end Rows
end Go.Proofs.Ythlpndgfphjlkaa
