/-
  DERIVED. GIVEN WITH THE SEED: THE CARDS: each row of YticpeombillmeaaGreatDoorRows.lean that lists a variable, with what it lists TIED to the program's text (the seventh form; the later family's looks); each row that meets fmt, with fmt's text TOLD by the authors' own Lean function (tested against real Go, not proved from fmt's source: count such statements apart). THE CARD IS WHAT COUNTS. Prove the row's statement (the work); the ties are given (YticpeombillmeaaGreatDoorTie.lean); close each card by the builder's one call (the guide's Derived/Test/ToyasCard.lean, 'card_holds'). Laid BY PROGRAM, IN A SANDBOX (cutbox-door.mjs). By AI agents, Wed Nov 11 2026. No macro, syntax, notation, axiom, sorry.
-/
import Derived.Test.YticpeombillmeaaGreatDoorRows
import GoSem.ClaimSeven
namespace Go.Proofs.YticpeombillmeaaGreatDoor
namespace Rows

/-- THE TIED CARD OF 'dataflowlaw13.IrBack'. -/
def irBackCard : Claim7 := { stood := { row := irBackRow, standIns := [], harness := (true, "0cb847edd0779d943a09cafe7192325e52c21b34f378f60664fb30d90a7485fa"), looks := true }, kinds := [], alts := [], laidByText := true, laidKinds := [.data, .data, .data, .data, .sentinel, .sentinel, .data, .data, .data, .data, .pinned], laidTests := true, laidLooks := .later }
def IrBackCardSaid : Prop := Claim7.holds Tryz.pinned (.plain (OpenSpec.ofChange irBackSpec)) irBackCard

/-- THE TIED CARD OF 'dataflowlaw13.IrFinds'. -/
def irFindsCard : Claim7 := { stood := { row := irFindsRow, standIns := [], harness := (true, "0cb847edd0779d943a09cafe7192325e52c21b34f378f60664fb30d90a7485fa"), looks := true }, kinds := [], alts := [], laidByText := true, laidKinds := [.data, .data, .data, .data, .sentinel, .sentinel, .data, .data, .data, .data, .pinned], laidTests := true, laidLooks := .later }
def IrFindsCardSaid : Prop := Claim7.holds Tryz.pinned (.plain (OpenSpec.ofChange irFindsSpec)) irFindsCard

/-- THE TIED CARD OF 'dataflowlaw13.IrFlows'. -/
def irFlowsCard : Claim7 := { stood := { row := irFlowsRow, standIns := [], harness := (true, "0cb847edd0779d943a09cafe7192325e52c21b34f378f60664fb30d90a7485fa"), looks := true }, kinds := [], alts := [], laidByText := true, laidKinds := [.data, .data, .data, .data, .sentinel, .sentinel, .data, .data, .data, .data, .pinned], laidTests := true, laidLooks := .later }
def IrFlowsCardSaid : Prop := Claim7.holds Tryz.pinned (.plain (OpenSpec.ofChange irFlowsSpec)) irFlowsCard

/-- THE SECOND FORM's CARD OF 'dataflowlaw13.IrBack'. -/
def irBackUptoCard : Claim7 := { stood := { row := irBackUptoRow, standIns := [], harness := (true, "0cb847edd0779d943a09cafe7192325e52c21b34f378f60664fb30d90a7485fa"), looks := true }, kinds := [], alts := [], laidByText := true, laidKinds := [.data, .data, .data, .data, .sentinel, .sentinel, .data, .data, .data, .data, .pinned], laidTests := true, laidLooks := .later }
def IrBackUptoCardSaid : Prop := Claim7.holds Tryz.pinned (.plain (OpenSpec.upto irBackSpec)) irBackUptoCard

/-- THE SECOND FORM's CARD OF 'dataflowlaw13.IrFinds'. -/
def irFindsUptoCard : Claim7 := { stood := { row := irFindsUptoRow, standIns := [], harness := (true, "0cb847edd0779d943a09cafe7192325e52c21b34f378f60664fb30d90a7485fa"), looks := true }, kinds := [], alts := [], laidByText := true, laidKinds := [.data, .data, .data, .data, .sentinel, .sentinel, .data, .data, .data, .data, .pinned], laidTests := true, laidLooks := .later }
def IrFindsUptoCardSaid : Prop := Claim7.holds Tryz.pinned (.plain (OpenSpec.upto irFindsSpec)) irFindsUptoCard

/-- THE SECOND FORM's CARD OF 'dataflowlaw13.IrFlows'. -/
def irFlowsUptoCard : Claim7 := { stood := { row := irFlowsUptoRow, standIns := [], harness := (true, "0cb847edd0779d943a09cafe7192325e52c21b34f378f60664fb30d90a7485fa"), looks := true }, kinds := [], alts := [], laidByText := true, laidKinds := [.data, .data, .data, .data, .sentinel, .sentinel, .data, .data, .data, .data, .pinned], laidTests := true, laidLooks := .later }
def IrFlowsUptoCardSaid : Prop := Claim7.holds Tryz.pinned (.plain (OpenSpec.upto irFlowsSpec)) irFlowsUptoCard
end Rows
end Go.Proofs.YticpeombillmeaaGreatDoor
