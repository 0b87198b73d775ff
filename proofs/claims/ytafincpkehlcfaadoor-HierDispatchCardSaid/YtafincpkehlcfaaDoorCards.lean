/-
  DERIVED. GIVEN WITH THE SEED: THE CARDS: each row of YtafincpkehlcfaaDoorRows.lean that lists a variable, with what it lists TIED to the program's text (the seventh form; the later family's looks); each row that meets fmt, with fmt's text TOLD by the authors' own Lean function (tested against real Go, not proved from fmt's source: count such statements apart). THE CARD IS WHAT COUNTS. Prove the row's statement (the work); the ties are given (YtafincpkehlcfaaDoorTie.lean); close each card by the builder's one call (the guide's Derived/Test/ToyasCard.lean, 'card_holds'). Laid BY PROGRAM, IN A SANDBOX (cutbox-door.mjs). By AI agents, Wed Nov 11 2026. No macro, syntax, notation, axiom, sorry.
-/
import Derived.Test.YtafincpkehlcfaaDoorRows
import GoSem.ClaimSeven
namespace Go.Proofs.YtafincpkehlcfaaDoor
namespace Rows

/-- THE TIED CARD OF 'dataflowlaw10.HierDispatch'. -/
def hierDispatchCard : Claim7 := { stood := { row := hierDispatchRow, standIns := [], harness := (true, "f644f53d1fd44622b666dd4c1d0b060022f7be6e2453df35f0e377d2ae7cfc2a"), looks := false }, kinds := [], alts := [], laidByText := true, laidKinds := [.data], laidTests := true, laidLooks := .later }
def HierDispatchCardSaid : Prop := Claim7.holds Tryd.pinned (.plain (OpenSpec.ofChange hierDispatchSpec)) hierDispatchCard

/-- THE TIED CARD OF 'dataflowlaw10.HierOrder'. -/
def hierOrderCard : Claim7 := { stood := { row := hierOrderRow, standIns := [], harness := (true, "f644f53d1fd44622b666dd4c1d0b060022f7be6e2453df35f0e377d2ae7cfc2a"), looks := false }, kinds := [], alts := [], laidByText := true, laidKinds := [.data], laidTests := true, laidLooks := .later }
def HierOrderCardSaid : Prop := Claim7.holds Tryd.pinned (.plain (OpenSpec.ofChange hierOrderSpec)) hierOrderCard

/-- THE TIED CARD OF 'dataflowlaw10.HierInherits'. -/
def hierInheritsCard : Claim7 := { stood := { row := hierInheritsRow, standIns := [], harness := (true, "f644f53d1fd44622b666dd4c1d0b060022f7be6e2453df35f0e377d2ae7cfc2a"), looks := false }, kinds := [], alts := [], laidByText := true, laidKinds := [.data], laidTests := true, laidLooks := .later }
def HierInheritsCardSaid : Prop := Claim7.holds Tryd.pinned (.plain (OpenSpec.ofChange hierInheritsSpec)) hierInheritsCard

/-- THE SECOND FORM's CARD OF 'dataflowlaw10.HierDispatch'. -/
def hierDispatchUptoCard : Claim7 := { stood := { row := hierDispatchUptoRow, standIns := [], harness := (true, "f644f53d1fd44622b666dd4c1d0b060022f7be6e2453df35f0e377d2ae7cfc2a"), looks := false }, kinds := [], alts := [], laidByText := true, laidKinds := [.data], laidTests := true, laidLooks := .later }
def HierDispatchUptoCardSaid : Prop := Claim7.holds Tryd.pinned (.plain (OpenSpec.upto hierDispatchSpec)) hierDispatchUptoCard

/-- THE SECOND FORM's CARD OF 'dataflowlaw10.HierOrder'. -/
def hierOrderUptoCard : Claim7 := { stood := { row := hierOrderUptoRow, standIns := [], harness := (true, "f644f53d1fd44622b666dd4c1d0b060022f7be6e2453df35f0e377d2ae7cfc2a"), looks := false }, kinds := [], alts := [], laidByText := true, laidKinds := [.data], laidTests := true, laidLooks := .later }
def HierOrderUptoCardSaid : Prop := Claim7.holds Tryd.pinned (.plain (OpenSpec.upto hierOrderSpec)) hierOrderUptoCard

/-- THE SECOND FORM's CARD OF 'dataflowlaw10.HierInherits'. -/
def hierInheritsUptoCard : Claim7 := { stood := { row := hierInheritsUptoRow, standIns := [], harness := (true, "f644f53d1fd44622b666dd4c1d0b060022f7be6e2453df35f0e377d2ae7cfc2a"), looks := false }, kinds := [], alts := [], laidByText := true, laidKinds := [.data], laidTests := true, laidLooks := .later }
def HierInheritsUptoCardSaid : Prop := Claim7.holds Tryd.pinned (.plain (OpenSpec.upto hierInheritsSpec)) hierInheritsUptoCard
end Rows
end Go.Proofs.YtafincpkehlcfaaDoor
