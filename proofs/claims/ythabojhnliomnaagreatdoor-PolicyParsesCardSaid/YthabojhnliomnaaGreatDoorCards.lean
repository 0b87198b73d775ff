/-
  DERIVED. GIVEN WITH THE SEED: THE CARDS: each row of YthabojhnliomnaaGreatDoorRows.lean that lists a variable, with what it lists TIED to the program's text (the seventh form; the later family's looks); each row that meets fmt, with fmt's text TOLD by the authors' own Lean function (tested against real Go, not proved from fmt's source: count such statements apart). THE CARD IS WHAT COUNTS. Prove the row's statement (the work); the ties are given (YthabojhnliomnaaGreatDoorTie.lean); close each card by the builder's one call (the guide's Derived/Test/ToyasCard.lean, 'card_holds'). Laid BY PROGRAM, IN A SANDBOX (cutbox-door.mjs). By AI agents, Wed Nov 11 2026. No macro, syntax, notation, axiom, sorry.
-/
import Derived.Test.YthabojhnliomnaaGreatDoorRows
import GoSem.ClaimSeven
namespace Go.Proofs.YthabojhnliomnaaGreatDoor
namespace Rows

/-- THE TIED CARD OF 'dataflowlaw42.PolicyChecks'. -/
def policyChecksCard : Claim7 := { stood := { row := policyChecksRow, standIns := [], harness := (true, "65590b2c96536753395bd90205ddc572cac8252ee8ecd8919c4900cf48b510b4"), looks := false }, kinds := [], alts := [], laidByText := true, laidKinds := [.data, .data, .data, .data, .data, .pinned], laidTests := true, laidLooks := .later }
def PolicyChecksCardSaid : Prop := Claim7.holds Tryz.pinned (.plain (OpenSpec.ofChange policyChecksSpec)) policyChecksCard

/-- THE TIED CARD OF 'dataflowlaw42.PolicyTexts'. -/
def policyTextsCard : Claim7 := { stood := { row := policyTextsRow, standIns := [], harness := (true, "65590b2c96536753395bd90205ddc572cac8252ee8ecd8919c4900cf48b510b4"), looks := false }, kinds := [], alts := [], laidByText := true, laidKinds := [.data, .data, .data, .data, .data, .pinned], laidTests := true, laidLooks := .later }
def PolicyTextsCardSaid : Prop := Claim7.holds Tryz.pinned (.plain (OpenSpec.ofChange policyTextsSpec)) policyTextsCard

/-- THE TIED CARD OF 'dataflowlaw42.PolicyParses'. -/
def policyParsesCard : Claim7 := { stood := { row := policyParsesRow, standIns := [], harness := (true, "65590b2c96536753395bd90205ddc572cac8252ee8ecd8919c4900cf48b510b4"), looks := false }, kinds := [], alts := [], laidByText := true, laidKinds := [.data, .data, .data, .data, .data, .pinned], laidTests := true, laidLooks := .later }
def PolicyParsesCardSaid : Prop := Claim7.holds Tryz.pinned (.plain (OpenSpec.ofChange policyParsesSpec)) policyParsesCard

/-- THE TIED CARD OF 'dataflowlaw42.PolicyBack'. -/
def policyBackCard : Claim7 := { stood := { row := policyBackRow, standIns := [], harness := (true, "65590b2c96536753395bd90205ddc572cac8252ee8ecd8919c4900cf48b510b4"), looks := false }, kinds := [], alts := [], laidByText := true, laidKinds := [.data, .data, .data, .data, .data, .pinned], laidTests := true, laidLooks := .later }
def PolicyBackCardSaid : Prop := Claim7.holds Tryz.pinned (.plain (OpenSpec.ofChange policyBackSpec)) policyBackCard

/-- THE TIED CARD OF 'dataflowlaw42.PolicyTags'. -/
def policyTagsCard : Claim7 := { stood := { row := policyTagsRow, standIns := [], harness := (true, "65590b2c96536753395bd90205ddc572cac8252ee8ecd8919c4900cf48b510b4"), looks := false }, kinds := [], alts := [], laidByText := true, laidKinds := [.data, .data, .data, .data, .data, .pinned], laidTests := true, laidLooks := .later }
def PolicyTagsCardSaid : Prop := Claim7.holds Tryz.pinned (.plain (OpenSpec.ofChange policyTagsSpec)) policyTagsCard

/-- THE TIED CARD OF 'dataflowlaw42.PolicyFits'. -/
def policyFitsCard : Claim7 := { stood := { row := policyFitsRow, standIns := [], harness := (true, "65590b2c96536753395bd90205ddc572cac8252ee8ecd8919c4900cf48b510b4"), looks := false }, kinds := [], alts := [], laidByText := true, laidKinds := [.data, .data, .data, .data, .data, .pinned], laidTests := true, laidLooks := .later }
def PolicyFitsCardSaid : Prop := Claim7.holds Tryz.pinned (.plain (OpenSpec.ofChange policyFitsSpec)) policyFitsCard

/-- THE TIED CARD OF 'dataflowlaw42.PolicyFuncs'. -/
def policyFuncsCard : Claim7 := { stood := { row := policyFuncsRow, standIns := [], harness := (true, "65590b2c96536753395bd90205ddc572cac8252ee8ecd8919c4900cf48b510b4"), looks := false }, kinds := [], alts := [], laidByText := true, laidKinds := [.data, .data, .data, .data, .data, .pinned], laidTests := true, laidLooks := .later }
def PolicyFuncsCardSaid : Prop := Claim7.holds Tryz.pinned (.plain (OpenSpec.ofChange policyFuncsSpec)) policyFuncsCard

/-- THE SECOND FORM's CARD OF 'dataflowlaw42.PolicyChecks'. -/
def policyChecksUptoCard : Claim7 := { stood := { row := policyChecksUptoRow, standIns := [], harness := (true, "65590b2c96536753395bd90205ddc572cac8252ee8ecd8919c4900cf48b510b4"), looks := false }, kinds := [], alts := [], laidByText := true, laidKinds := [.data, .data, .data, .data, .data, .pinned], laidTests := true, laidLooks := .later }
def PolicyChecksUptoCardSaid : Prop := Claim7.holds Tryz.pinned (.plain (OpenSpec.upto policyChecksSpec)) policyChecksUptoCard

/-- THE SECOND FORM's CARD OF 'dataflowlaw42.PolicyTexts'. -/
def policyTextsUptoCard : Claim7 := { stood := { row := policyTextsUptoRow, standIns := [], harness := (true, "65590b2c96536753395bd90205ddc572cac8252ee8ecd8919c4900cf48b510b4"), looks := false }, kinds := [], alts := [], laidByText := true, laidKinds := [.data, .data, .data, .data, .data, .pinned], laidTests := true, laidLooks := .later }
def PolicyTextsUptoCardSaid : Prop := Claim7.holds Tryz.pinned (.plain (OpenSpec.upto policyTextsSpec)) policyTextsUptoCard

/-- THE SECOND FORM's CARD OF 'dataflowlaw42.PolicyParses'. -/
def policyParsesUptoCard : Claim7 := { stood := { row := policyParsesUptoRow, standIns := [], harness := (true, "65590b2c96536753395bd90205ddc572cac8252ee8ecd8919c4900cf48b510b4"), looks := false }, kinds := [], alts := [], laidByText := true, laidKinds := [.data, .data, .data, .data, .data, .pinned], laidTests := true, laidLooks := .later }
def PolicyParsesUptoCardSaid : Prop := Claim7.holds Tryz.pinned (.plain (OpenSpec.upto policyParsesSpec)) policyParsesUptoCard

/-- THE SECOND FORM's CARD OF 'dataflowlaw42.PolicyBack'. -/
def policyBackUptoCard : Claim7 := { stood := { row := policyBackUptoRow, standIns := [], harness := (true, "65590b2c96536753395bd90205ddc572cac8252ee8ecd8919c4900cf48b510b4"), looks := false }, kinds := [], alts := [], laidByText := true, laidKinds := [.data, .data, .data, .data, .data, .pinned], laidTests := true, laidLooks := .later }
def PolicyBackUptoCardSaid : Prop := Claim7.holds Tryz.pinned (.plain (OpenSpec.upto policyBackSpec)) policyBackUptoCard

/-- THE SECOND FORM's CARD OF 'dataflowlaw42.PolicyTags'. -/
def policyTagsUptoCard : Claim7 := { stood := { row := policyTagsUptoRow, standIns := [], harness := (true, "65590b2c96536753395bd90205ddc572cac8252ee8ecd8919c4900cf48b510b4"), looks := false }, kinds := [], alts := [], laidByText := true, laidKinds := [.data, .data, .data, .data, .data, .pinned], laidTests := true, laidLooks := .later }
def PolicyTagsUptoCardSaid : Prop := Claim7.holds Tryz.pinned (.plain (OpenSpec.upto policyTagsSpec)) policyTagsUptoCard

/-- THE SECOND FORM's CARD OF 'dataflowlaw42.PolicyFits'. -/
def policyFitsUptoCard : Claim7 := { stood := { row := policyFitsUptoRow, standIns := [], harness := (true, "65590b2c96536753395bd90205ddc572cac8252ee8ecd8919c4900cf48b510b4"), looks := false }, kinds := [], alts := [], laidByText := true, laidKinds := [.data, .data, .data, .data, .data, .pinned], laidTests := true, laidLooks := .later }
def PolicyFitsUptoCardSaid : Prop := Claim7.holds Tryz.pinned (.plain (OpenSpec.upto policyFitsSpec)) policyFitsUptoCard

/-- THE SECOND FORM's CARD OF 'dataflowlaw42.PolicyFuncs'. -/
def policyFuncsUptoCard : Claim7 := { stood := { row := policyFuncsUptoRow, standIns := [], harness := (true, "65590b2c96536753395bd90205ddc572cac8252ee8ecd8919c4900cf48b510b4"), looks := false }, kinds := [], alts := [], laidByText := true, laidKinds := [.data, .data, .data, .data, .data, .pinned], laidTests := true, laidLooks := .later }
def PolicyFuncsUptoCardSaid : Prop := Claim7.holds Tryz.pinned (.plain (OpenSpec.upto policyFuncsSpec)) policyFuncsUptoCard
end Rows
end Go.Proofs.YthabojhnliomnaaGreatDoor
