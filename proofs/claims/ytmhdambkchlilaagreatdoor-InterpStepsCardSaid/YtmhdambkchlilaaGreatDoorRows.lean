/-
  NARROWER THAN 'FOR EVERY INPUT', by the rows' own cells (each row's printed sentence says how): InterpBin: laid · InterpDispatch: laid · InterpSteps: laid · InterpTypes: laid · InterpReads: laid · InterpFollows: laid · PolicyFuncs: laid.
  DERIVED. THE GIVEN ROWS OF THIS SEAT. 7 by the template 'for every input the law returns true; each argument reads behind the call as it read before'; 0 by the template 'total and deterministic' (their statements: YtmhdambkchlilaaGreatDoorTotals.lean).
  GIVEN WITH THE SEED: the statements are not yours to turn. If you find one false, say at which input.
  Laid BY PROGRAM, IN A SANDBOX (cutbox-rows.mjs): the forced cells as the released guide's own fill.sh prints them over the translation 45780d2e26fca581… (all of the seat's roots in one cut). By AI agents, Wed Nov 11 2026. No macro, syntax, notation, axiom, sorry.
-/
import Derived.Test.YtmhdambkchlilaaGreatDoorChecked
import GoSem.PinnedTables
import GoSem.Claim
import GoSem.ClaimJoined
import GoSem.ClaimMapViews
import Derived.JoinedTies
import Derived.KernelRfl
namespace Go.Proofs.YtmhdambkchlilaaGreatDoor
/- THE CELL 'sum', in the pinned program and in every row, IS THE sha256 OF THE DUMP (.gsa) THAT YtmhdambkchlilaaGreatDoorProg.lean LOADS. Nothing in Lean hashes anything: it is a label: what it is worth is what the hold of that sum in a sandbox is worth. -/
noncomputable def Tryz.pinned : Pinned := { name := "ytmhdambkchlilaagreatdoor", sum := "45780d2e26fca58120ea066077358c7e17c089063126a055c6d714926d581ad0", checked := Tryz.checked }
namespace Rows
def none {H : Type} : Left H := { results := [], args := [] }

/- WHAT THE LISTED PACKAGE-LEVEL VARIABLES READ AS WHEN THE CALL BEGINS. Each datum BY PROGRAM (the guide's laid-datum.mjs) off the statement by which the dump's own 'gosem.cut.vars' lays the variable. In a bare row this is a premise. The card (YtmhdambkchlilaaGreatDoorCards.lean) ties it to the program's text. -/
def laid_dataflow_lex_keywords {H : Type} : DataW H := .agg [.lit (.string [99, 108, 97, 115, 115]), .lit (.string [101, 120, 116, 101, 110, 100, 115]), .lit (.string [118, 97, 114]), .lit (.string [100, 101, 102]), .lit (.string [115, 116, 97, 116, 105, 99]), .lit (.string [105, 102]), .lit (.string [101, 108, 115, 101]), .lit (.string [119, 104, 105, 108, 101]), .lit (.string [116, 114, 121]), .lit (.string [99, 97, 116, 99, 104]), .lit (.string [116, 104, 114, 111, 119]), .lit (.string [114, 101, 116, 117, 114, 110]), .lit (.string [110, 101, 119]), .lit (.string [110, 117, 108, 108]), .lit (.string [116, 104, 105, 115]), .lit (.string [105, 110, 112, 117, 116]), .lit (.string [105, 110, 116])]
def laid_dataflow_ir_forms {H : Type} : DataW H := .agg [.lit (.string []), .lit (.string [100, 110]), .lit (.string [100]), .lit (.string [100, 97]), .lit (.string [100, 97, 111, 98]), .lit (.string [100]), .lit (.string [100, 99]), .lit (.string [100, 97, 109]), .lit (.string [97, 109, 98]), .lit (.string [100, 97, 99, 109, 42]), .lit (.string [100, 99, 109, 42]), .lit (.string [97, 103]), .lit (.string [103]), .lit (.string [97]), .lit (.string [97]), .lit (.string [100, 99]), .lit (.string [100, 97, 110])]
def laid_math_bits_deBruijn32tab {H : Type} : DataW H := .agg [.lit (.int .u8 0), .lit (.int .u8 1), .lit (.int .u8 28), .lit (.int .u8 2), .lit (.int .u8 29), .lit (.int .u8 14), .lit (.int .u8 24), .lit (.int .u8 3), .lit (.int .u8 30), .lit (.int .u8 22), .lit (.int .u8 20), .lit (.int .u8 15), .lit (.int .u8 25), .lit (.int .u8 17), .lit (.int .u8 4), .lit (.int .u8 8), .lit (.int .u8 31), .lit (.int .u8 27), .lit (.int .u8 13), .lit (.int .u8 23), .lit (.int .u8 21), .lit (.int .u8 19), .lit (.int .u8 16), .lit (.int .u8 7), .lit (.int .u8 26), .lit (.int .u8 12), .lit (.int .u8 18), .lit (.int .u8 6), .lit (.int .u8 11), .lit (.int .u8 5), .lit (.int .u8 10), .lit (.int .u8 9)]
def laid_math_bits_deBruijn64tab {H : Type} : DataW H := .agg [.lit (.int .u8 0), .lit (.int .u8 1), .lit (.int .u8 56), .lit (.int .u8 2), .lit (.int .u8 57), .lit (.int .u8 49), .lit (.int .u8 28), .lit (.int .u8 3), .lit (.int .u8 61), .lit (.int .u8 58), .lit (.int .u8 42), .lit (.int .u8 50), .lit (.int .u8 38), .lit (.int .u8 29), .lit (.int .u8 17), .lit (.int .u8 4), .lit (.int .u8 62), .lit (.int .u8 47), .lit (.int .u8 59), .lit (.int .u8 36), .lit (.int .u8 45), .lit (.int .u8 43), .lit (.int .u8 51), .lit (.int .u8 22), .lit (.int .u8 53), .lit (.int .u8 39), .lit (.int .u8 33), .lit (.int .u8 30), .lit (.int .u8 24), .lit (.int .u8 18), .lit (.int .u8 12), .lit (.int .u8 5), .lit (.int .u8 63), .lit (.int .u8 55), .lit (.int .u8 48), .lit (.int .u8 27), .lit (.int .u8 60), .lit (.int .u8 41), .lit (.int .u8 37), .lit (.int .u8 16), .lit (.int .u8 46), .lit (.int .u8 35), .lit (.int .u8 44), .lit (.int .u8 21), .lit (.int .u8 52), .lit (.int .u8 32), .lit (.int .u8 23), .lit (.int .u8 11), .lit (.int .u8 54), .lit (.int .u8 26), .lit (.int .u8 40), .lit (.int .u8 15), .lit (.int .u8 34), .lit (.int .u8 20), .lit (.int .u8 31), .lit (.int .u8 10), .lit (.int .u8 25), .lit (.int .u8 14), .lit (.int .u8 19), .lit (.int .u8 9), .lit (.int .u8 13), .lit (.int .u8 8), .lit (.int .u8 7), .lit (.int .u8 6)]
def laid_internal_strconv_uint64pow10 {H : Type} : DataW H := .agg [.lit (.int .u64 1), .lit (.int .u64 10), .lit (.int .u64 100), .lit (.int .u64 1000), .lit (.int .u64 10000), .lit (.int .u64 100000), .lit (.int .u64 1000000), .lit (.int .u64 10000000), .lit (.int .u64 100000000), .lit (.int .u64 1000000000), .lit (.int .u64 10000000000), .lit (.int .u64 100000000000), .lit (.int .u64 1000000000000), .lit (.int .u64 10000000000000), .lit (.int .u64 100000000000000), .lit (.int .u64 1000000000000000), .lit (.int .u64 10000000000000000), .lit (.int .u64 100000000000000000), .lit (.int .u64 1000000000000000000), .lit (.int .u64 10000000000000000000)]
def laid_unicode_utf8_acceptRanges {H : Type} : DataW H := .agg [.agg [.lit (.int .u8 128), .lit (.int .u8 191)], .agg [.lit (.int .u8 160), .lit (.int .u8 191)], .agg [.lit (.int .u8 128), .lit (.int .u8 159)], .agg [.lit (.int .u8 144), .lit (.int .u8 191)], .agg [.lit (.int .u8 128), .lit (.int .u8 143)], .agg [.lit (.int .u8 0), .lit (.int .u8 0)], .agg [.lit (.int .u8 0), .lit (.int .u8 0)], .agg [.lit (.int .u8 0), .lit (.int .u8 0)], .agg [.lit (.int .u8 0), .lit (.int .u8 0)], .agg [.lit (.int .u8 0), .lit (.int .u8 0)], .agg [.lit (.int .u8 0), .lit (.int .u8 0)], .agg [.lit (.int .u8 0), .lit (.int .u8 0)], .agg [.lit (.int .u8 0), .lit (.int .u8 0)], .agg [.lit (.int .u8 0), .lit (.int .u8 0)], .agg [.lit (.int .u8 0), .lit (.int .u8 0)], .agg [.lit (.int .u8 0), .lit (.int .u8 0)]]
/-- One of Go's own tables, pinned by name: the form's constant. -/
def laid_unicode_utf8_first : DataW Unit := Go.Pinned.utf8First

/-- 'dataflowlaw15.InterpBin': WHATEVER THE INPUT: true; the input reads as it did. -/
def interpBinSpec : ChangeSpec := { name := "interpBin", fn := fun _ => fun
  | [d1, d2, d3] => { results := [.lit (.bool true)], args := [d1, d2, d3] }
  | _ => none }
def interpBinRow : OpenClaim := { program := "ytmhdambkchlilaagreatdoor", sum := "45780d2e26fca58120ea066077358c7e17c089063126a055c6d714926d581ad0", func := "dataflow/dataflowlaw15.InterpBin", spec := "interpBin", inPlace := ["internal/bytealg.IndexByteString"], unfollowed := true, recurses := true, named := ["dataflow/lex.keywords", "dataflow/ir.forms"], plainKeys := false, apart := false, laid := [("dataflow/lex.keywords", laid_dataflow_lex_keywords), ("dataflow/ir.forms", laid_dataflow_ir_forms)] }
def InterpBinSaid : Prop := interpBinRow.holds Tryz.pinned (OpenSpec.ofChange interpBinSpec)

/-- ITS FALSE NEIGHBOUR: 'it returns false'. Refute it at one input. -/
def interpBinWrong : ChangeSpec := { name := "interpBin", fn := fun _ => fun
  | [d1, d2, d3] => { results := [.lit (.bool false)], args := [d1, d2, d3] }
  | _ => none }
def InterpBinWrongFalsely : Prop := interpBinRow.holds Tryz.pinned (OpenSpec.ofChange interpBinWrong)

/-- 'dataflowlaw15.InterpDispatch': WHATEVER THE INPUT: true; the input reads as it did. -/
def interpDispatchSpec : ChangeSpec := { name := "interpDispatch", fn := fun _ => fun
  | [d1, d2, d3] => { results := [.lit (.bool true)], args := [d1, d2, d3] }
  | _ => none }
def interpDispatchRow : OpenClaim := { program := "ytmhdambkchlilaagreatdoor", sum := "45780d2e26fca58120ea066077358c7e17c089063126a055c6d714926d581ad0", func := "dataflow/dataflowlaw15.InterpDispatch", spec := "interpDispatch", inPlace := ["internal/bytealg.IndexByteString"], unfollowed := true, recurses := true, named := ["dataflow/lex.keywords", "dataflow/ir.forms"], plainKeys := false, apart := false, laid := [("dataflow/lex.keywords", laid_dataflow_lex_keywords), ("dataflow/ir.forms", laid_dataflow_ir_forms)] }
def InterpDispatchSaid : Prop := interpDispatchRow.holds Tryz.pinned (OpenSpec.ofChange interpDispatchSpec)

/-- ITS FALSE NEIGHBOUR: 'it returns false'. Refute it at one input. -/
def interpDispatchWrong : ChangeSpec := { name := "interpDispatch", fn := fun _ => fun
  | [d1, d2, d3] => { results := [.lit (.bool false)], args := [d1, d2, d3] }
  | _ => none }
def InterpDispatchWrongFalsely : Prop := interpDispatchRow.holds Tryz.pinned (OpenSpec.ofChange interpDispatchWrong)

/-- 'dataflowlaw15.InterpSteps': WHATEVER THE INPUT: true; the input reads as it did. -/
def interpStepsSpec : ChangeSpec := { name := "interpSteps", fn := fun _ => fun
  | [d1, d2, d3, d4] => { results := [.lit (.bool true)], args := [d1, d2, d3, d4] }
  | _ => none }
def interpStepsRow : OpenClaim := { program := "ytmhdambkchlilaagreatdoor", sum := "45780d2e26fca58120ea066077358c7e17c089063126a055c6d714926d581ad0", func := "dataflow/dataflowlaw15.InterpSteps", spec := "interpSteps", inPlace := ["internal/bytealg.IndexByteString"], unfollowed := true, recurses := true, named := ["dataflow/lex.keywords", "dataflow/ir.forms"], plainKeys := false, apart := false, laid := [("dataflow/lex.keywords", laid_dataflow_lex_keywords), ("dataflow/ir.forms", laid_dataflow_ir_forms)] }
def InterpStepsSaid : Prop := interpStepsRow.holds Tryz.pinned (OpenSpec.ofChange interpStepsSpec)

/-- ITS FALSE NEIGHBOUR: 'it returns false'. Refute it at one input. -/
def interpStepsWrong : ChangeSpec := { name := "interpSteps", fn := fun _ => fun
  | [d1, d2, d3, d4] => { results := [.lit (.bool false)], args := [d1, d2, d3, d4] }
  | _ => none }
def InterpStepsWrongFalsely : Prop := interpStepsRow.holds Tryz.pinned (OpenSpec.ofChange interpStepsWrong)

/-- 'dataflowlaw15.InterpTypes': WHATEVER THE INPUT: true; the input reads as it did. -/
def interpTypesSpec : ChangeSpec := { name := "interpTypes", fn := fun _ => fun
  | [d1, d2] => { results := [.lit (.bool true)], args := [d1, d2] }
  | _ => none }
def interpTypesRow : OpenClaim := { program := "ytmhdambkchlilaagreatdoor", sum := "45780d2e26fca58120ea066077358c7e17c089063126a055c6d714926d581ad0", func := "dataflow/dataflowlaw15.InterpTypes", spec := "interpTypes", inPlace := ["internal/bytealg.IndexByteString"], unfollowed := true, recurses := true, named := ["dataflow/lex.keywords", "dataflow/ir.forms"], plainKeys := false, apart := false, laid := [("dataflow/lex.keywords", laid_dataflow_lex_keywords), ("dataflow/ir.forms", laid_dataflow_ir_forms)] }
def InterpTypesSaid : Prop := interpTypesRow.holds Tryz.pinned (OpenSpec.ofChange interpTypesSpec)

/-- ITS FALSE NEIGHBOUR: 'it returns false'. Refute it at one input. -/
def interpTypesWrong : ChangeSpec := { name := "interpTypes", fn := fun _ => fun
  | [d1, d2] => { results := [.lit (.bool false)], args := [d1, d2] }
  | _ => none }
def InterpTypesWrongFalsely : Prop := interpTypesRow.holds Tryz.pinned (OpenSpec.ofChange interpTypesWrong)

/-- 'dataflowlaw15.InterpReads': WHATEVER THE INPUT: true; the input reads as it did. -/
def interpReadsSpec : ChangeSpec := { name := "interpReads", fn := fun _ => fun
  | [d1, d2] => { results := [.lit (.bool true)], args := [d1, d2] }
  | _ => none }
def interpReadsRow : OpenClaim := { program := "ytmhdambkchlilaagreatdoor", sum := "45780d2e26fca58120ea066077358c7e17c089063126a055c6d714926d581ad0", func := "dataflow/dataflowlaw15.InterpReads", spec := "interpReads", inPlace := ["internal/bytealg.IndexByteString"], unfollowed := true, recurses := true, named := ["dataflow/lex.keywords", "dataflow/ir.forms"], plainKeys := false, apart := false, laid := [("dataflow/lex.keywords", laid_dataflow_lex_keywords), ("dataflow/ir.forms", laid_dataflow_ir_forms)] }
def InterpReadsSaid : Prop := interpReadsRow.holds Tryz.pinned (OpenSpec.ofChange interpReadsSpec)

/-- ITS FALSE NEIGHBOUR: 'it returns false'. Refute it at one input. -/
def interpReadsWrong : ChangeSpec := { name := "interpReads", fn := fun _ => fun
  | [d1, d2] => { results := [.lit (.bool false)], args := [d1, d2] }
  | _ => none }
def InterpReadsWrongFalsely : Prop := interpReadsRow.holds Tryz.pinned (OpenSpec.ofChange interpReadsWrong)

/-- 'dataflowlaw15.InterpFollows': WHATEVER THE INPUT: true; the input reads as it did. -/
def interpFollowsSpec : ChangeSpec := { name := "interpFollows", fn := fun _ => fun
  | [d1, d2] => { results := [.lit (.bool true)], args := [d1, d2] }
  | _ => none }
def interpFollowsRow : OpenClaim := { program := "ytmhdambkchlilaagreatdoor", sum := "45780d2e26fca58120ea066077358c7e17c089063126a055c6d714926d581ad0", func := "dataflow/dataflowlaw15.InterpFollows", spec := "interpFollows", inPlace := ["internal/bytealg.IndexByteString"], unfollowed := true, recurses := true, named := ["dataflow/lex.keywords", "dataflow/ir.forms"], plainKeys := false, apart := false, laid := [("dataflow/lex.keywords", laid_dataflow_lex_keywords), ("dataflow/ir.forms", laid_dataflow_ir_forms)] }
def InterpFollowsSaid : Prop := interpFollowsRow.holds Tryz.pinned (OpenSpec.ofChange interpFollowsSpec)

/-- ITS FALSE NEIGHBOUR: 'it returns false'. Refute it at one input. -/
def interpFollowsWrong : ChangeSpec := { name := "interpFollows", fn := fun _ => fun
  | [d1, d2] => { results := [.lit (.bool false)], args := [d1, d2] }
  | _ => none }
def InterpFollowsWrongFalsely : Prop := interpFollowsRow.holds Tryz.pinned (OpenSpec.ofChange interpFollowsWrong)

/-- 'dataflowlaw42.PolicyFuncs': WHATEVER THE INPUT: true; the input reads as it did. -/
def policyFuncsSpec : ChangeSpec := { name := "policyFuncs", fn := fun _ => fun
  | [d1, d2] => { results := [.lit (.bool true)], args := [d1, d2] }
  | _ => none }
def policyFuncsRow : OpenClaim := { program := "ytmhdambkchlilaagreatdoor", sum := "45780d2e26fca58120ea066077358c7e17c089063126a055c6d714926d581ad0", func := "dataflow/dataflowlaw42.PolicyFuncs", spec := "policyFuncs", inPlace := ["internal/bytealg.IndexByteString", "internal/bytealg.IndexString", "internal/bytealg.CountString", "internal/abi.NoEscape", "internal/bytealg.MakeNoZero"], unfollowed := true, recurses := true, named := ["internal/bytealg.MaxLen", "unicode/utf8.first", "unicode/utf8.acceptRanges", "dataflow/lex.keywords", "internal/strconv.uint64pow10", "math/bits.deBruijn32tab", "math/bits.deBruijn64tab"], plainKeys := false, apart := false, laid := [("math/bits.deBruijn32tab", laid_math_bits_deBruijn32tab), ("math/bits.deBruijn64tab", laid_math_bits_deBruijn64tab), ("internal/strconv.uint64pow10", laid_internal_strconv_uint64pow10), ("unicode/utf8.acceptRanges", laid_unicode_utf8_acceptRanges), ("dataflow/lex.keywords", laid_dataflow_lex_keywords), ("unicode/utf8.first", laid_unicode_utf8_first)] }
def PolicyFuncsSaid : Prop := policyFuncsRow.holds Tryz.pinned (OpenSpec.ofChange policyFuncsSpec)

/-- ITS FALSE NEIGHBOUR: 'it returns false'. Refute it at one input. -/
def policyFuncsWrong : ChangeSpec := { name := "policyFuncs", fn := fun _ => fun
  | [d1, d2] => { results := [.lit (.bool false)], args := [d1, d2] }
  | _ => none }
def PolicyFuncsWrongFalsely : Prop := policyFuncsRow.holds Tryz.pinned (OpenSpec.ofChange policyFuncsWrong)

/- THE SECOND FORM. 'bulk': how many values and letters a reading holds, each counted each time it is reached (what is shared counts as often as it is met; a slice's spare places count too). A statement '..UptoSaid' is the law's where the arguments, and the package variables that the reading takes, are together of bulk at most 1048576: NARROWER than '..Said'. Prove '..Said' where nothing that the law and all that it calls make is longer than what came in: it says more and counts as full. Else prove '..UptoSaid'. A law counts once. -/
mutual
def uptoBulk {H : Type} : DataW H → Nat
  | .lit (.string bytes) => bytes.length + 1
  | .lit _ => 1
  | .nil => 1
  | .ptr d => uptoBulk d + 1
  | .slice elems spare => uptoBulkAll elems + uptoBulkAll spare + 1
  | .agg parts => uptoBulkAll parts + 1
  | .iface _ d => uptoBulk d + 1
  | .map entries => uptoBulkEntries entries + 1
  | .held _ => 1
def uptoBulkAll {H : Type} : List (DataW H) → Nat
  | [] => 0
  | d :: r => uptoBulk d + uptoBulkAll r
def uptoBulkEntries {H : Type} : List (Lit × DataW H) → Nat
  | [] => 0
  | x :: r => uptoBulkEntry x + uptoBulkEntries r
def uptoBulkEntry {H : Type} : Lit × DataW H → Nat
  | (.string bytes, d) => bytes.length + uptoBulk d + 1
  | (_, d) => uptoBulk d + 1
 end
def uptoSmall : (H : Type) → List (DataW H) → Bool := fun _ ds => decide (uptoBulkAll ds ≤ 1048576)
def OpenSpec.upto (s : _root_.Go.ChangeSpec) : _root_.Go.OpenSpec := { _root_.Go.OpenSpec.ofChange s with cond := some uptoSmall }

/-- 'dataflowlaw15.InterpBin', WHERE WHAT IT READS IS OF BULK AT MOST 1048576: true; the input reads as it did. -/
def interpBinUptoRow : OpenClaim := { program := "ytmhdambkchlilaagreatdoor", sum := "45780d2e26fca58120ea066077358c7e17c089063126a055c6d714926d581ad0", func := "dataflow/dataflowlaw15.InterpBin", spec := "interpBin", inPlace := ["internal/bytealg.IndexByteString"], unfollowed := true, recurses := true, named := ["dataflow/lex.keywords", "dataflow/ir.forms"], plainKeys := false, apart := false, laid := [("dataflow/lex.keywords", laid_dataflow_lex_keywords), ("dataflow/ir.forms", laid_dataflow_ir_forms)], narrowed := true }
def InterpBinUptoSaid : Prop := interpBinUptoRow.holds Tryz.pinned (OpenSpec.upto interpBinSpec)

/-- 'dataflowlaw15.InterpDispatch', WHERE WHAT IT READS IS OF BULK AT MOST 1048576: true; the input reads as it did. -/
def interpDispatchUptoRow : OpenClaim := { program := "ytmhdambkchlilaagreatdoor", sum := "45780d2e26fca58120ea066077358c7e17c089063126a055c6d714926d581ad0", func := "dataflow/dataflowlaw15.InterpDispatch", spec := "interpDispatch", inPlace := ["internal/bytealg.IndexByteString"], unfollowed := true, recurses := true, named := ["dataflow/lex.keywords", "dataflow/ir.forms"], plainKeys := false, apart := false, laid := [("dataflow/lex.keywords", laid_dataflow_lex_keywords), ("dataflow/ir.forms", laid_dataflow_ir_forms)], narrowed := true }
def InterpDispatchUptoSaid : Prop := interpDispatchUptoRow.holds Tryz.pinned (OpenSpec.upto interpDispatchSpec)

/-- 'dataflowlaw15.InterpSteps', WHERE WHAT IT READS IS OF BULK AT MOST 1048576: true; the input reads as it did. -/
def interpStepsUptoRow : OpenClaim := { program := "ytmhdambkchlilaagreatdoor", sum := "45780d2e26fca58120ea066077358c7e17c089063126a055c6d714926d581ad0", func := "dataflow/dataflowlaw15.InterpSteps", spec := "interpSteps", inPlace := ["internal/bytealg.IndexByteString"], unfollowed := true, recurses := true, named := ["dataflow/lex.keywords", "dataflow/ir.forms"], plainKeys := false, apart := false, laid := [("dataflow/lex.keywords", laid_dataflow_lex_keywords), ("dataflow/ir.forms", laid_dataflow_ir_forms)], narrowed := true }
def InterpStepsUptoSaid : Prop := interpStepsUptoRow.holds Tryz.pinned (OpenSpec.upto interpStepsSpec)

/-- 'dataflowlaw15.InterpTypes', WHERE WHAT IT READS IS OF BULK AT MOST 1048576: true; the input reads as it did. -/
def interpTypesUptoRow : OpenClaim := { program := "ytmhdambkchlilaagreatdoor", sum := "45780d2e26fca58120ea066077358c7e17c089063126a055c6d714926d581ad0", func := "dataflow/dataflowlaw15.InterpTypes", spec := "interpTypes", inPlace := ["internal/bytealg.IndexByteString"], unfollowed := true, recurses := true, named := ["dataflow/lex.keywords", "dataflow/ir.forms"], plainKeys := false, apart := false, laid := [("dataflow/lex.keywords", laid_dataflow_lex_keywords), ("dataflow/ir.forms", laid_dataflow_ir_forms)], narrowed := true }
def InterpTypesUptoSaid : Prop := interpTypesUptoRow.holds Tryz.pinned (OpenSpec.upto interpTypesSpec)

/-- 'dataflowlaw15.InterpReads', WHERE WHAT IT READS IS OF BULK AT MOST 1048576: true; the input reads as it did. -/
def interpReadsUptoRow : OpenClaim := { program := "ytmhdambkchlilaagreatdoor", sum := "45780d2e26fca58120ea066077358c7e17c089063126a055c6d714926d581ad0", func := "dataflow/dataflowlaw15.InterpReads", spec := "interpReads", inPlace := ["internal/bytealg.IndexByteString"], unfollowed := true, recurses := true, named := ["dataflow/lex.keywords", "dataflow/ir.forms"], plainKeys := false, apart := false, laid := [("dataflow/lex.keywords", laid_dataflow_lex_keywords), ("dataflow/ir.forms", laid_dataflow_ir_forms)], narrowed := true }
def InterpReadsUptoSaid : Prop := interpReadsUptoRow.holds Tryz.pinned (OpenSpec.upto interpReadsSpec)

/-- 'dataflowlaw15.InterpFollows', WHERE WHAT IT READS IS OF BULK AT MOST 1048576: true; the input reads as it did. -/
def interpFollowsUptoRow : OpenClaim := { program := "ytmhdambkchlilaagreatdoor", sum := "45780d2e26fca58120ea066077358c7e17c089063126a055c6d714926d581ad0", func := "dataflow/dataflowlaw15.InterpFollows", spec := "interpFollows", inPlace := ["internal/bytealg.IndexByteString"], unfollowed := true, recurses := true, named := ["dataflow/lex.keywords", "dataflow/ir.forms"], plainKeys := false, apart := false, laid := [("dataflow/lex.keywords", laid_dataflow_lex_keywords), ("dataflow/ir.forms", laid_dataflow_ir_forms)], narrowed := true }
def InterpFollowsUptoSaid : Prop := interpFollowsUptoRow.holds Tryz.pinned (OpenSpec.upto interpFollowsSpec)

/-- 'dataflowlaw42.PolicyFuncs', WHERE WHAT IT READS IS OF BULK AT MOST 1048576: true; the input reads as it did. -/
def policyFuncsUptoRow : OpenClaim := { program := "ytmhdambkchlilaagreatdoor", sum := "45780d2e26fca58120ea066077358c7e17c089063126a055c6d714926d581ad0", func := "dataflow/dataflowlaw42.PolicyFuncs", spec := "policyFuncs", inPlace := ["internal/bytealg.IndexByteString", "internal/bytealg.IndexString", "internal/bytealg.CountString", "internal/abi.NoEscape", "internal/bytealg.MakeNoZero"], unfollowed := true, recurses := true, named := ["internal/bytealg.MaxLen", "unicode/utf8.first", "unicode/utf8.acceptRanges", "dataflow/lex.keywords", "internal/strconv.uint64pow10", "math/bits.deBruijn32tab", "math/bits.deBruijn64tab"], plainKeys := false, apart := false, laid := [("math/bits.deBruijn32tab", laid_math_bits_deBruijn32tab), ("math/bits.deBruijn64tab", laid_math_bits_deBruijn64tab), ("internal/strconv.uint64pow10", laid_internal_strconv_uint64pow10), ("unicode/utf8.acceptRanges", laid_unicode_utf8_acceptRanges), ("dataflow/lex.keywords", laid_dataflow_lex_keywords), ("unicode/utf8.first", laid_unicode_utf8_first)], narrowed := true }
def PolicyFuncsUptoSaid : Prop := policyFuncsUptoRow.holds Tryz.pinned (OpenSpec.upto policyFuncsSpec)

end Rows
end Go.Proofs.YtmhdambkchlilaaGreatDoor
