/-
  DERIVED. GIVEN WITH THE SEED: THE CARDS: each row of YtmoibjjpfemgjaaGreatDoorRows.lean that lists a variable, with what it lists TIED to the program's text (the seventh form; the later family's looks); each row that meets fmt, with fmt's text TOLD by the authors' own Lean function (tested against real Go, not proved from fmt's source: count such statements apart). THE CARD IS WHAT COUNTS. Prove the row's statement (the work); the ties are given (YtmoibjjpfemgjaaGreatDoorTie.lean); close each card by the builder's one call (the guide's Derived/Test/ToyasCard.lean, 'card_holds'). Laid BY PROGRAM, IN A SANDBOX (cutbox-door.mjs). By AI agents, Wed Nov 11 2026. No macro, syntax, notation, axiom, sorry.
-/
import Derived.Test.YtmoibjjpfemgjaaGreatDoorRows
import GoSem.ClaimSeven
namespace Go.Proofs.YtmoibjjpfemgjaaGreatDoor
namespace Rows

/-- THE TIED CARD OF 'modelchecklaw38.ViewsSteps'. -/
def viewsStepsCard : Claim7 := { stood := { row := viewsStepsRow, standIns := [], harness := (true, "639749a6064ee359833ff3b777cd1101689e0e46572cd7e4cf3b5b058dcaaba2"), looks := false }, kinds := [], alts := [], laidByText := true, laidKinds := [.data, .data], laidTests := true, laidLooks := .later }
def ViewsStepsCardSaid : Prop := Claim7.holds Tryz.pinned (.plain (OpenSpec.ofChange viewsStepsSpec)) viewsStepsCard

/-- THE TIED CARD OF 'modelchecklaw38.ViewsWalks'. -/
def viewsWalksCard : Claim7 := { stood := { row := viewsWalksRow, standIns := [], harness := (true, "639749a6064ee359833ff3b777cd1101689e0e46572cd7e4cf3b5b058dcaaba2"), looks := false }, kinds := [], alts := [], laidByText := true, laidKinds := [.data, .data], laidTests := true, laidLooks := .later }
def ViewsWalksCardSaid : Prop := Claim7.holds Tryz.pinned (.plain (OpenSpec.ofChange viewsWalksSpec)) viewsWalksCard

/-- THE TIED CARD OF 'modelchecklaw38.ViewsMonotone'. -/
def viewsMonotoneCard : Claim7 := { stood := { row := viewsMonotoneRow, standIns := [], harness := (true, "639749a6064ee359833ff3b777cd1101689e0e46572cd7e4cf3b5b058dcaaba2"), looks := false }, kinds := [], alts := [], laidByText := true, laidKinds := [.data, .data], laidTests := true, laidLooks := .later }
def ViewsMonotoneCardSaid : Prop := Claim7.holds Tryz.pinned (.plain (OpenSpec.ofChange viewsMonotoneSpec)) viewsMonotoneCard

/-- THE TIED CARD OF 'modelchecklaw38.ViewsCoherent'. -/
def viewsCoherentCard : Claim7 := { stood := { row := viewsCoherentRow, standIns := [], harness := (true, "639749a6064ee359833ff3b777cd1101689e0e46572cd7e4cf3b5b058dcaaba2"), looks := false }, kinds := [], alts := [], laidByText := true, laidKinds := [.data, .data], laidTests := true, laidLooks := .later }
def ViewsCoherentCardSaid : Prop := Claim7.holds Tryz.pinned (.plain (OpenSpec.ofChange viewsCoherentSpec)) viewsCoherentCard

/-- THE TIED CARD OF 'modelchecklaw38.ViewsMessages'. -/
def viewsMessagesCard : Claim7 := { stood := { row := viewsMessagesRow, standIns := [], harness := (true, "639749a6064ee359833ff3b777cd1101689e0e46572cd7e4cf3b5b058dcaaba2"), looks := false }, kinds := [], alts := [], laidByText := true, laidKinds := [.data, .data], laidTests := true, laidLooks := .later }
def ViewsMessagesCardSaid : Prop := Claim7.holds Tryz.pinned (.plain (OpenSpec.ofChange viewsMessagesSpec)) viewsMessagesCard

/-- THE TIED CARD OF 'modelchecklaw38.ViewsRuns'. -/
def viewsRunsCard : Claim7 := { stood := { row := viewsRunsRow, standIns := [], harness := (true, "639749a6064ee359833ff3b777cd1101689e0e46572cd7e4cf3b5b058dcaaba2"), looks := false }, kinds := [], alts := [], laidByText := true, laidKinds := [.data, .data], laidTests := true, laidLooks := .later }
def ViewsRunsCardSaid : Prop := Claim7.holds Tryz.pinned (.plain (OpenSpec.ofChange viewsRunsSpec)) viewsRunsCard

/-- THE SECOND FORM's CARD OF 'modelchecklaw38.ViewsSteps'. -/
def viewsStepsUptoCard : Claim7 := { stood := { row := viewsStepsUptoRow, standIns := [], harness := (true, "639749a6064ee359833ff3b777cd1101689e0e46572cd7e4cf3b5b058dcaaba2"), looks := false }, kinds := [], alts := [], laidByText := true, laidKinds := [.data, .data], laidTests := true, laidLooks := .later }
def ViewsStepsUptoCardSaid : Prop := Claim7.holds Tryz.pinned (.plain (OpenSpec.upto viewsStepsSpec)) viewsStepsUptoCard

/-- THE SECOND FORM's CARD OF 'modelchecklaw38.ViewsWalks'. -/
def viewsWalksUptoCard : Claim7 := { stood := { row := viewsWalksUptoRow, standIns := [], harness := (true, "639749a6064ee359833ff3b777cd1101689e0e46572cd7e4cf3b5b058dcaaba2"), looks := false }, kinds := [], alts := [], laidByText := true, laidKinds := [.data, .data], laidTests := true, laidLooks := .later }
def ViewsWalksUptoCardSaid : Prop := Claim7.holds Tryz.pinned (.plain (OpenSpec.upto viewsWalksSpec)) viewsWalksUptoCard

/-- THE SECOND FORM's CARD OF 'modelchecklaw38.ViewsMonotone'. -/
def viewsMonotoneUptoCard : Claim7 := { stood := { row := viewsMonotoneUptoRow, standIns := [], harness := (true, "639749a6064ee359833ff3b777cd1101689e0e46572cd7e4cf3b5b058dcaaba2"), looks := false }, kinds := [], alts := [], laidByText := true, laidKinds := [.data, .data], laidTests := true, laidLooks := .later }
def ViewsMonotoneUptoCardSaid : Prop := Claim7.holds Tryz.pinned (.plain (OpenSpec.upto viewsMonotoneSpec)) viewsMonotoneUptoCard

/-- THE SECOND FORM's CARD OF 'modelchecklaw38.ViewsCoherent'. -/
def viewsCoherentUptoCard : Claim7 := { stood := { row := viewsCoherentUptoRow, standIns := [], harness := (true, "639749a6064ee359833ff3b777cd1101689e0e46572cd7e4cf3b5b058dcaaba2"), looks := false }, kinds := [], alts := [], laidByText := true, laidKinds := [.data, .data], laidTests := true, laidLooks := .later }
def ViewsCoherentUptoCardSaid : Prop := Claim7.holds Tryz.pinned (.plain (OpenSpec.upto viewsCoherentSpec)) viewsCoherentUptoCard

/-- THE SECOND FORM's CARD OF 'modelchecklaw38.ViewsMessages'. -/
def viewsMessagesUptoCard : Claim7 := { stood := { row := viewsMessagesUptoRow, standIns := [], harness := (true, "639749a6064ee359833ff3b777cd1101689e0e46572cd7e4cf3b5b058dcaaba2"), looks := false }, kinds := [], alts := [], laidByText := true, laidKinds := [.data, .data], laidTests := true, laidLooks := .later }
def ViewsMessagesUptoCardSaid : Prop := Claim7.holds Tryz.pinned (.plain (OpenSpec.upto viewsMessagesSpec)) viewsMessagesUptoCard

/-- THE SECOND FORM's CARD OF 'modelchecklaw38.ViewsRuns'. -/
def viewsRunsUptoCard : Claim7 := { stood := { row := viewsRunsUptoRow, standIns := [], harness := (true, "639749a6064ee359833ff3b777cd1101689e0e46572cd7e4cf3b5b058dcaaba2"), looks := false }, kinds := [], alts := [], laidByText := true, laidKinds := [.data, .data], laidTests := true, laidLooks := .later }
def ViewsRunsUptoCardSaid : Prop := Claim7.holds Tryz.pinned (.plain (OpenSpec.upto viewsRunsSpec)) viewsRunsUptoCard
end Rows
end Go.Proofs.YtmoibjjpfemgjaaGreatDoor
