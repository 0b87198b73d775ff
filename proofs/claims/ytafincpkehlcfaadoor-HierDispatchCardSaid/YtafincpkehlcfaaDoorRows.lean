/-
  NARROWER THAN 'FOR EVERY INPUT', by the rows' own cells (each row's printed sentence says how): HierDispatch: laid · HierOrder: laid · HierInherits: laid.
  DERIVED. THE GIVEN ROWS OF THIS SEAT. 3 by the template 'for every input the law returns true; each argument reads behind the call as it read before'; 0 by the template 'total and deterministic' (their statements: YtafincpkehlcfaaDoorTotals.lean).
  GIVEN WITH THE SEED: the statements are not yours to turn. If you find one false, say at which input.
  Laid BY PROGRAM, IN A SANDBOX (cutbox-rows.mjs): the forced cells as the released guide's own fill.sh prints them over the translation db85112ffff44b77… (all of the seat's roots in one cut). By AI agents, Wed Nov 11 2026. No macro, syntax, notation, axiom, sorry.
-/
import Derived.Test.YtafincpkehlcfaaDoorChecked
import GoSem.Claim
import GoSem.ClaimJoined
import GoSem.ClaimMapViews
import Derived.JoinedTies
import Derived.KernelRfl
namespace Go.Proofs.YtafincpkehlcfaaDoor
/- THE CELL 'sum', in the pinned program and in every row, IS THE sha256 OF THE DUMP (.gsa) THAT YtafincpkehlcfaaDoorProg.lean LOADS. Nothing in Lean hashes anything: it is a label: what it is worth is what the hold of that sum in a sandbox is worth. -/
noncomputable def Tryd.pinned : Pinned := { name := "ytafincpkehlcfaadoor", sum := "db85112ffff44b772a70a7f383aa18ed9a418245800afff65d476eb4673ed616", checked := Tryd.checked }
namespace Rows
def none {H : Type} : Left H := { results := [], args := [] }

/- WHAT THE LISTED PACKAGE-LEVEL VARIABLES READ AS WHEN THE CALL BEGINS. Each datum BY PROGRAM (the guide's laid-datum.mjs) off the statement by which the dump's own 'gosem.cut.vars' lays the variable. In a bare row this is a premise. The card (YtafincpkehlcfaaDoorCards.lean) ties it to the program's text. -/
def laid_dataflow_lex_keywords {H : Type} : DataW H := .agg [.lit (.string [99, 108, 97, 115, 115]), .lit (.string [101, 120, 116, 101, 110, 100, 115]), .lit (.string [118, 97, 114]), .lit (.string [100, 101, 102]), .lit (.string [115, 116, 97, 116, 105, 99]), .lit (.string [105, 102]), .lit (.string [101, 108, 115, 101]), .lit (.string [119, 104, 105, 108, 101]), .lit (.string [116, 114, 121]), .lit (.string [99, 97, 116, 99, 104]), .lit (.string [116, 104, 114, 111, 119]), .lit (.string [114, 101, 116, 117, 114, 110]), .lit (.string [110, 101, 119]), .lit (.string [110, 117, 108, 108]), .lit (.string [116, 104, 105, 115]), .lit (.string [105, 110, 112, 117, 116]), .lit (.string [105, 110, 116])]

/-- 'dataflowlaw10.HierDispatch': WHATEVER THE INPUT: true; the input reads as it did. -/
def hierDispatchSpec : ChangeSpec := { name := "hierDispatch", fn := fun _ => fun
  | [d1, d2] => { results := [.lit (.bool true)], args := [d1, d2] }
  | _ => none }
def hierDispatchRow : OpenClaim := { program := "ytafincpkehlcfaadoor", sum := "db85112ffff44b772a70a7f383aa18ed9a418245800afff65d476eb4673ed616", func := "dataflow/dataflowlaw10.HierDispatch", spec := "hierDispatch", unfollowed := true, recurses := true, named := ["dataflow/lex.keywords"], apart := false, laid := [("dataflow/lex.keywords", laid_dataflow_lex_keywords)] }
def HierDispatchSaid : Prop := hierDispatchRow.holds Tryd.pinned (OpenSpec.ofChange hierDispatchSpec)

/-- ITS FALSE NEIGHBOUR: 'it returns false'. Refute it at one input. -/
def hierDispatchWrong : ChangeSpec := { name := "hierDispatch", fn := fun _ => fun
  | [d1, d2] => { results := [.lit (.bool false)], args := [d1, d2] }
  | _ => none }
def HierDispatchWrongFalsely : Prop := hierDispatchRow.holds Tryd.pinned (OpenSpec.ofChange hierDispatchWrong)

/-- 'dataflowlaw10.HierOrder': WHATEVER THE INPUT: true; the input reads as it did. -/
def hierOrderSpec : ChangeSpec := { name := "hierOrder", fn := fun _ => fun
  | [d1, d2, d3, d4] => { results := [.lit (.bool true)], args := [d1, d2, d3, d4] }
  | _ => none }
def hierOrderRow : OpenClaim := { program := "ytafincpkehlcfaadoor", sum := "db85112ffff44b772a70a7f383aa18ed9a418245800afff65d476eb4673ed616", func := "dataflow/dataflowlaw10.HierOrder", spec := "hierOrder", unfollowed := true, recurses := true, named := ["dataflow/lex.keywords"], apart := false, laid := [("dataflow/lex.keywords", laid_dataflow_lex_keywords)] }
def HierOrderSaid : Prop := hierOrderRow.holds Tryd.pinned (OpenSpec.ofChange hierOrderSpec)

/-- ITS FALSE NEIGHBOUR: 'it returns false'. Refute it at one input. -/
def hierOrderWrong : ChangeSpec := { name := "hierOrder", fn := fun _ => fun
  | [d1, d2, d3, d4] => { results := [.lit (.bool false)], args := [d1, d2, d3, d4] }
  | _ => none }
def HierOrderWrongFalsely : Prop := hierOrderRow.holds Tryd.pinned (OpenSpec.ofChange hierOrderWrong)

/-- 'dataflowlaw10.HierInherits': WHATEVER THE INPUT: true; the input reads as it did. -/
def hierInheritsSpec : ChangeSpec := { name := "hierInherits", fn := fun _ => fun
  | [d1, d2, d3, d4] => { results := [.lit (.bool true)], args := [d1, d2, d3, d4] }
  | _ => none }
def hierInheritsRow : OpenClaim := { program := "ytafincpkehlcfaadoor", sum := "db85112ffff44b772a70a7f383aa18ed9a418245800afff65d476eb4673ed616", func := "dataflow/dataflowlaw10.HierInherits", spec := "hierInherits", unfollowed := true, recurses := true, named := ["dataflow/lex.keywords"], apart := false, laid := [("dataflow/lex.keywords", laid_dataflow_lex_keywords)] }
def HierInheritsSaid : Prop := hierInheritsRow.holds Tryd.pinned (OpenSpec.ofChange hierInheritsSpec)

/-- ITS FALSE NEIGHBOUR: 'it returns false'. Refute it at one input. -/
def hierInheritsWrong : ChangeSpec := { name := "hierInherits", fn := fun _ => fun
  | [d1, d2, d3, d4] => { results := [.lit (.bool false)], args := [d1, d2, d3, d4] }
  | _ => none }
def HierInheritsWrongFalsely : Prop := hierInheritsRow.holds Tryd.pinned (OpenSpec.ofChange hierInheritsWrong)

/- THE SECOND FORM. 'bulk': how many values and letters a reading holds, each counted each time it is reached (what is shared counts as often as it is met; a slice's spare places count too). A statement '..UptoSaid' is the law's where the arguments, and the package variables that the reading takes, are together of bulk at most 1048576: NARROWER than '..Said'. Prove '..Said' where nothing that the law and all that it calls make is longer than what came in: it says more and counts as full. Else prove '..UptoSaid'. A law counts once. -/
mutual
def uptoBulk {H : Type} : DataW H → Nat
  | .lit (.string bytes) => bytes.length + 1
  | .lit _ => 1
  | .nil => 1
  | .ptr d => uptoBulk d + 1
  | .slice elems spare => uptoBulkAll elems + uptoBulkAll spare + 1
  | .agg parts => uptoBulkAll parts + 1
  | .iface _ d => uptoBulk d + 1
  | .map entries => uptoBulkEntries entries + 1
  | .held _ => 1
def uptoBulkAll {H : Type} : List (DataW H) → Nat
  | [] => 0
  | d :: r => uptoBulk d + uptoBulkAll r
def uptoBulkEntries {H : Type} : List (Lit × DataW H) → Nat
  | [] => 0
  | x :: r => uptoBulkEntry x + uptoBulkEntries r
def uptoBulkEntry {H : Type} : Lit × DataW H → Nat
  | (.string bytes, d) => bytes.length + uptoBulk d + 1
  | (_, d) => uptoBulk d + 1
 end
def uptoSmall : (H : Type) → List (DataW H) → Bool := fun _ ds => decide (uptoBulkAll ds ≤ 1048576)
def OpenSpec.upto (s : _root_.Go.ChangeSpec) : _root_.Go.OpenSpec := { _root_.Go.OpenSpec.ofChange s with cond := some uptoSmall }

/-- 'dataflowlaw10.HierDispatch', WHERE WHAT IT READS IS OF BULK AT MOST 1048576: true; the input reads as it did. -/
def hierDispatchUptoRow : OpenClaim := { program := "ytafincpkehlcfaadoor", sum := "db85112ffff44b772a70a7f383aa18ed9a418245800afff65d476eb4673ed616", func := "dataflow/dataflowlaw10.HierDispatch", spec := "hierDispatch", unfollowed := true, recurses := true, named := ["dataflow/lex.keywords"], apart := false, laid := [("dataflow/lex.keywords", laid_dataflow_lex_keywords)], narrowed := true }
def HierDispatchUptoSaid : Prop := hierDispatchUptoRow.holds Tryd.pinned (OpenSpec.upto hierDispatchSpec)

/-- 'dataflowlaw10.HierOrder', WHERE WHAT IT READS IS OF BULK AT MOST 1048576: true; the input reads as it did. -/
def hierOrderUptoRow : OpenClaim := { program := "ytafincpkehlcfaadoor", sum := "db85112ffff44b772a70a7f383aa18ed9a418245800afff65d476eb4673ed616", func := "dataflow/dataflowlaw10.HierOrder", spec := "hierOrder", unfollowed := true, recurses := true, named := ["dataflow/lex.keywords"], apart := false, laid := [("dataflow/lex.keywords", laid_dataflow_lex_keywords)], narrowed := true }
def HierOrderUptoSaid : Prop := hierOrderUptoRow.holds Tryd.pinned (OpenSpec.upto hierOrderSpec)

/-- 'dataflowlaw10.HierInherits', WHERE WHAT IT READS IS OF BULK AT MOST 1048576: true; the input reads as it did. -/
def hierInheritsUptoRow : OpenClaim := { program := "ytafincpkehlcfaadoor", sum := "db85112ffff44b772a70a7f383aa18ed9a418245800afff65d476eb4673ed616", func := "dataflow/dataflowlaw10.HierInherits", spec := "hierInherits", unfollowed := true, recurses := true, named := ["dataflow/lex.keywords"], apart := false, laid := [("dataflow/lex.keywords", laid_dataflow_lex_keywords)], narrowed := true }
def HierInheritsUptoSaid : Prop := hierInheritsUptoRow.holds Tryd.pinned (OpenSpec.upto hierInheritsSpec)

end Rows
end Go.Proofs.YtafincpkehlcfaaDoor
