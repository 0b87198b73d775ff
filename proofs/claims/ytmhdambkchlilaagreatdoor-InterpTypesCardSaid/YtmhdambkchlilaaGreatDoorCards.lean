/-
  DERIVED. GIVEN WITH THE SEED: THE CARDS: each row of YtmhdambkchlilaaGreatDoorRows.lean that lists a variable, with what it lists TIED to the program's text (the seventh form; the later family's looks); each row that meets fmt, with fmt's text TOLD by the authors' own Lean function (tested against real Go, not proved from fmt's source: count such statements apart). THE CARD IS WHAT COUNTS. Prove the row's statement (the work); the ties are given (YtmhdambkchlilaaGreatDoorTie.lean); close each card by the builder's one call (the guide's Derived/Test/ToyasCard.lean, 'card_holds'). Laid BY PROGRAM, IN A SANDBOX (cutbox-door.mjs). By AI agents, Wed Nov 11 2026. No macro, syntax, notation, axiom, sorry.
-/
import Derived.Test.YtmhdambkchlilaaGreatDoorRows
import GoSem.ClaimSeven
namespace Go.Proofs.YtmhdambkchlilaaGreatDoor
namespace Rows

/-- THE TIED CARD OF 'dataflowlaw15.InterpBin'. -/
def interpBinCard : Claim7 := { stood := { row := interpBinRow, standIns := [], harness := (true, "238f98f759d1806d96ea027d6384c976f7c14c66862d529c0892564f130544e3"), looks := false }, kinds := [], alts := [], laidByText := true, laidKinds := [.data, .data], laidTests := true, laidLooks := .later }
def InterpBinCardSaid : Prop := Claim7.holds Tryz.pinned (.plain (OpenSpec.ofChange interpBinSpec)) interpBinCard

/-- THE TIED CARD OF 'dataflowlaw15.InterpDispatch'. -/
def interpDispatchCard : Claim7 := { stood := { row := interpDispatchRow, standIns := [], harness := (true, "238f98f759d1806d96ea027d6384c976f7c14c66862d529c0892564f130544e3"), looks := false }, kinds := [], alts := [], laidByText := true, laidKinds := [.data, .data], laidTests := true, laidLooks := .later }
def InterpDispatchCardSaid : Prop := Claim7.holds Tryz.pinned (.plain (OpenSpec.ofChange interpDispatchSpec)) interpDispatchCard

/-- THE TIED CARD OF 'dataflowlaw15.InterpSteps'. -/
def interpStepsCard : Claim7 := { stood := { row := interpStepsRow, standIns := [], harness := (true, "238f98f759d1806d96ea027d6384c976f7c14c66862d529c0892564f130544e3"), looks := false }, kinds := [], alts := [], laidByText := true, laidKinds := [.data, .data], laidTests := true, laidLooks := .later }
def InterpStepsCardSaid : Prop := Claim7.holds Tryz.pinned (.plain (OpenSpec.ofChange interpStepsSpec)) interpStepsCard

/-- THE TIED CARD OF 'dataflowlaw15.InterpTypes'. -/
def interpTypesCard : Claim7 := { stood := { row := interpTypesRow, standIns := [], harness := (true, "238f98f759d1806d96ea027d6384c976f7c14c66862d529c0892564f130544e3"), looks := false }, kinds := [], alts := [], laidByText := true, laidKinds := [.data, .data], laidTests := true, laidLooks := .later }
def InterpTypesCardSaid : Prop := Claim7.holds Tryz.pinned (.plain (OpenSpec.ofChange interpTypesSpec)) interpTypesCard

/-- THE TIED CARD OF 'dataflowlaw15.InterpReads'. -/
def interpReadsCard : Claim7 := { stood := { row := interpReadsRow, standIns := [], harness := (true, "238f98f759d1806d96ea027d6384c976f7c14c66862d529c0892564f130544e3"), looks := false }, kinds := [], alts := [], laidByText := true, laidKinds := [.data, .data], laidTests := true, laidLooks := .later }
def InterpReadsCardSaid : Prop := Claim7.holds Tryz.pinned (.plain (OpenSpec.ofChange interpReadsSpec)) interpReadsCard

/-- THE TIED CARD OF 'dataflowlaw15.InterpFollows'. -/
def interpFollowsCard : Claim7 := { stood := { row := interpFollowsRow, standIns := [], harness := (true, "238f98f759d1806d96ea027d6384c976f7c14c66862d529c0892564f130544e3"), looks := false }, kinds := [], alts := [], laidByText := true, laidKinds := [.data, .data], laidTests := true, laidLooks := .later }
def InterpFollowsCardSaid : Prop := Claim7.holds Tryz.pinned (.plain (OpenSpec.ofChange interpFollowsSpec)) interpFollowsCard

/-- THE TIED CARD OF 'dataflowlaw42.PolicyFuncs'. -/
def policyFuncsCard : Claim7 := { stood := { row := policyFuncsRow, standIns := [], harness := (true, "238f98f759d1806d96ea027d6384c976f7c14c66862d529c0892564f130544e3"), looks := false }, kinds := [], alts := [], laidByText := true, laidKinds := [.data, .data, .data, .data, .data, .pinned], laidTests := true, laidLooks := .later }
def PolicyFuncsCardSaid : Prop := Claim7.holds Tryz.pinned (.plain (OpenSpec.ofChange policyFuncsSpec)) policyFuncsCard

/-- THE SECOND FORM's CARD OF 'dataflowlaw15.InterpBin'. -/
def interpBinUptoCard : Claim7 := { stood := { row := interpBinUptoRow, standIns := [], harness := (true, "238f98f759d1806d96ea027d6384c976f7c14c66862d529c0892564f130544e3"), looks := false }, kinds := [], alts := [], laidByText := true, laidKinds := [.data, .data], laidTests := true, laidLooks := .later }
def InterpBinUptoCardSaid : Prop := Claim7.holds Tryz.pinned (.plain (OpenSpec.upto interpBinSpec)) interpBinUptoCard

/-- THE SECOND FORM's CARD OF 'dataflowlaw15.InterpDispatch'. -/
def interpDispatchUptoCard : Claim7 := { stood := { row := interpDispatchUptoRow, standIns := [], harness := (true, "238f98f759d1806d96ea027d6384c976f7c14c66862d529c0892564f130544e3"), looks := false }, kinds := [], alts := [], laidByText := true, laidKinds := [.data, .data], laidTests := true, laidLooks := .later }
def InterpDispatchUptoCardSaid : Prop := Claim7.holds Tryz.pinned (.plain (OpenSpec.upto interpDispatchSpec)) interpDispatchUptoCard

/-- THE SECOND FORM's CARD OF 'dataflowlaw15.InterpSteps'. -/
def interpStepsUptoCard : Claim7 := { stood := { row := interpStepsUptoRow, standIns := [], harness := (true, "238f98f759d1806d96ea027d6384c976f7c14c66862d529c0892564f130544e3"), looks := false }, kinds := [], alts := [], laidByText := true, laidKinds := [.data, .data], laidTests := true, laidLooks := .later }
def InterpStepsUptoCardSaid : Prop := Claim7.holds Tryz.pinned (.plain (OpenSpec.upto interpStepsSpec)) interpStepsUptoCard

/-- THE SECOND FORM's CARD OF 'dataflowlaw15.InterpTypes'. -/
def interpTypesUptoCard : Claim7 := { stood := { row := interpTypesUptoRow, standIns := [], harness := (true, "238f98f759d1806d96ea027d6384c976f7c14c66862d529c0892564f130544e3"), looks := false }, kinds := [], alts := [], laidByText := true, laidKinds := [.data, .data], laidTests := true, laidLooks := .later }
def InterpTypesUptoCardSaid : Prop := Claim7.holds Tryz.pinned (.plain (OpenSpec.upto interpTypesSpec)) interpTypesUptoCard

/-- THE SECOND FORM's CARD OF 'dataflowlaw15.InterpReads'. -/
def interpReadsUptoCard : Claim7 := { stood := { row := interpReadsUptoRow, standIns := [], harness := (true, "238f98f759d1806d96ea027d6384c976f7c14c66862d529c0892564f130544e3"), looks := false }, kinds := [], alts := [], laidByText := true, laidKinds := [.data, .data], laidTests := true, laidLooks := .later }
def InterpReadsUptoCardSaid : Prop := Claim7.holds Tryz.pinned (.plain (OpenSpec.upto interpReadsSpec)) interpReadsUptoCard

/-- THE SECOND FORM's CARD OF 'dataflowlaw15.InterpFollows'. -/
def interpFollowsUptoCard : Claim7 := { stood := { row := interpFollowsUptoRow, standIns := [], harness := (true, "238f98f759d1806d96ea027d6384c976f7c14c66862d529c0892564f130544e3"), looks := false }, kinds := [], alts := [], laidByText := true, laidKinds := [.data, .data], laidTests := true, laidLooks := .later }
def InterpFollowsUptoCardSaid : Prop := Claim7.holds Tryz.pinned (.plain (OpenSpec.upto interpFollowsSpec)) interpFollowsUptoCard

/-- THE SECOND FORM's CARD OF 'dataflowlaw42.PolicyFuncs'. -/
def policyFuncsUptoCard : Claim7 := { stood := { row := policyFuncsUptoRow, standIns := [], harness := (true, "238f98f759d1806d96ea027d6384c976f7c14c66862d529c0892564f130544e3"), looks := false }, kinds := [], alts := [], laidByText := true, laidKinds := [.data, .data, .data, .data, .data, .pinned], laidTests := true, laidLooks := .later }
def PolicyFuncsUptoCardSaid : Prop := Claim7.holds Tryz.pinned (.plain (OpenSpec.upto policyFuncsSpec)) policyFuncsUptoCard
end Rows
end Go.Proofs.YtmhdambkchlilaaGreatDoor
