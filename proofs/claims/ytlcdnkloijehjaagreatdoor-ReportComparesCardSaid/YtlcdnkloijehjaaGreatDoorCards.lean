/-
  DERIVED. GIVEN WITH THE SEED: THE CARDS: each row of YtlcdnkloijehjaaGreatDoorRows.lean that lists a variable, with what it lists TIED to the program's text (the seventh form; the later family's looks); each row that meets fmt, with fmt's text TOLD by the authors' own Lean function (tested against real Go, not proved from fmt's source: count such statements apart). THE CARD IS WHAT COUNTS. Prove the row's statement (the work); the ties are given (YtlcdnkloijehjaaGreatDoorTie.lean); close each card by the builder's one call (the guide's Derived/Test/ToyasCard.lean, 'card_holds'). Laid BY PROGRAM, IN A SANDBOX (cutbox-door.mjs). By AI agents, Wed Nov 11 2026. No macro, syntax, notation, axiom, sorry.
-/
import Derived.Test.YtlcdnkloijehjaaGreatDoorRows
import GoSem.ClaimSeven
namespace Go.Proofs.YtlcdnkloijehjaaGreatDoor
namespace Rows

/-- THE TIED CARD OF 'dataflowlaw47.ReportTells'. -/
def reportTellsCard : Claim7 := { stood := { row := reportTellsRow, standIns := [], harness := (true, "8eb33e4ac3dbb1de60cd3e9d75be03b1da2d909d6c02ef69080492d7c2dae009"), looks := true }, kinds := [], alts := [], laidByText := true, laidKinds := [.data, .data, .data, .data, .sentinel, .sentinel, .data, .pinned], laidTests := true, laidLooks := .later }
def ReportTellsCardSaid : Prop := Claim7.holds Tryz.pinned (.plain (OpenSpec.ofChange reportTellsSpec)) reportTellsCard

/-- THE TIED CARD OF 'dataflowlaw47.ReportBack'. -/
def reportBackCard : Claim7 := { stood := { row := reportBackRow, standIns := [], harness := (true, "8eb33e4ac3dbb1de60cd3e9d75be03b1da2d909d6c02ef69080492d7c2dae009"), looks := true }, kinds := [], alts := [], laidByText := true, laidKinds := [.data, .data, .data, .data, .sentinel, .sentinel, .data, .pinned], laidTests := true, laidLooks := .later }
def ReportBackCardSaid : Prop := Claim7.holds Tryz.pinned (.plain (OpenSpec.ofChange reportBackSpec)) reportBackCard

/-- THE TIED CARD OF 'dataflowlaw47.ReportParses'. -/
def reportParsesCard : Claim7 := { stood := { row := reportParsesRow, standIns := [], harness := (true, "8eb33e4ac3dbb1de60cd3e9d75be03b1da2d909d6c02ef69080492d7c2dae009"), looks := true }, kinds := [], alts := [], laidByText := true, laidKinds := [.data, .data, .data, .data, .sentinel, .sentinel, .data, .pinned], laidTests := true, laidLooks := .later }
def ReportParsesCardSaid : Prop := Claim7.holds Tryz.pinned (.plain (OpenSpec.ofChange reportParsesSpec)) reportParsesCard

/-- THE TIED CARD OF 'dataflowlaw47.ReportCompares'. -/
def reportComparesCard : Claim7 := { stood := { row := reportComparesRow, standIns := [], harness := (true, "8eb33e4ac3dbb1de60cd3e9d75be03b1da2d909d6c02ef69080492d7c2dae009"), looks := true }, kinds := [], alts := [], laidByText := true, laidKinds := [.data, .data, .data, .data, .sentinel, .sentinel, .data, .pinned], laidTests := true, laidLooks := .later }
def ReportComparesCardSaid : Prop := Claim7.holds Tryz.pinned (.plain (OpenSpec.ofChange reportComparesSpec)) reportComparesCard

/-- THE SECOND FORM's CARD OF 'dataflowlaw47.ReportTells'. -/
def reportTellsUptoCard : Claim7 := { stood := { row := reportTellsUptoRow, standIns := [], harness := (true, "8eb33e4ac3dbb1de60cd3e9d75be03b1da2d909d6c02ef69080492d7c2dae009"), looks := true }, kinds := [], alts := [], laidByText := true, laidKinds := [.data, .data, .data, .data, .sentinel, .sentinel, .data, .pinned], laidTests := true, laidLooks := .later }
def ReportTellsUptoCardSaid : Prop := Claim7.holds Tryz.pinned (.plain (OpenSpec.upto reportTellsSpec)) reportTellsUptoCard

/-- THE SECOND FORM's CARD OF 'dataflowlaw47.ReportBack'. -/
def reportBackUptoCard : Claim7 := { stood := { row := reportBackUptoRow, standIns := [], harness := (true, "8eb33e4ac3dbb1de60cd3e9d75be03b1da2d909d6c02ef69080492d7c2dae009"), looks := true }, kinds := [], alts := [], laidByText := true, laidKinds := [.data, .data, .data, .data, .sentinel, .sentinel, .data, .pinned], laidTests := true, laidLooks := .later }
def ReportBackUptoCardSaid : Prop := Claim7.holds Tryz.pinned (.plain (OpenSpec.upto reportBackSpec)) reportBackUptoCard

/-- THE SECOND FORM's CARD OF 'dataflowlaw47.ReportParses'. -/
def reportParsesUptoCard : Claim7 := { stood := { row := reportParsesUptoRow, standIns := [], harness := (true, "8eb33e4ac3dbb1de60cd3e9d75be03b1da2d909d6c02ef69080492d7c2dae009"), looks := true }, kinds := [], alts := [], laidByText := true, laidKinds := [.data, .data, .data, .data, .sentinel, .sentinel, .data, .pinned], laidTests := true, laidLooks := .later }
def ReportParsesUptoCardSaid : Prop := Claim7.holds Tryz.pinned (.plain (OpenSpec.upto reportParsesSpec)) reportParsesUptoCard

/-- THE SECOND FORM's CARD OF 'dataflowlaw47.ReportCompares'. -/
def reportComparesUptoCard : Claim7 := { stood := { row := reportComparesUptoRow, standIns := [], harness := (true, "8eb33e4ac3dbb1de60cd3e9d75be03b1da2d909d6c02ef69080492d7c2dae009"), looks := true }, kinds := [], alts := [], laidByText := true, laidKinds := [.data, .data, .data, .data, .sentinel, .sentinel, .data, .pinned], laidTests := true, laidLooks := .later }
def ReportComparesUptoCardSaid : Prop := Claim7.holds Tryz.pinned (.plain (OpenSpec.upto reportComparesSpec)) reportComparesUptoCard
end Rows
end Go.Proofs.YtlcdnkloijehjaaGreatDoor
