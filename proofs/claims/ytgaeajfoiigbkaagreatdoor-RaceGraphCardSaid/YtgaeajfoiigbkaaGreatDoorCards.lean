/-
  DERIVED. GIVEN WITH THE SEED: THE CARDS: each row of YtgaeajfoiigbkaaGreatDoorRows.lean that lists a variable, with what it lists TIED to the program's text (the seventh form; the later family's looks); each row that meets fmt, with fmt's text TOLD by the authors' own Lean function (tested against real Go, not proved from fmt's source: count such statements apart). THE CARD IS WHAT COUNTS. Prove the row's statement (the work); the ties are given (YtgaeajfoiigbkaaGreatDoorTie.lean); close each card by the builder's one call (the guide's Derived/Test/ToyasCard.lean, 'card_holds'). Laid BY PROGRAM, IN A SANDBOX (cutbox-door.mjs). By AI agents, Wed Nov 11 2026. No macro, syntax, notation, axiom, sorry.
-/
import Derived.Test.YtgaeajfoiigbkaaGreatDoorRows
import GoSem.ClaimSeven
namespace Go.Proofs.YtgaeajfoiigbkaaGreatDoor
namespace Rows

/-- THE TIED CARD OF 'modelchecklaw44.VerdictBugs'. -/
def verdictBugsCard : Claim7 := { stood := { row := verdictBugsRow, standIns := [], harness := (true, "26df014c139842711850b35034f5437e81c774227359981e26bdce19debfa390"), looks := false }, kinds := [], alts := [], laidByText := true, laidKinds := [.data, .data, .data], laidTests := true, laidLooks := .later }
def VerdictBugsCardSaid : Prop := Claim7.holds Tryz.pinned (.plain (OpenSpec.ofChange verdictBugsSpec)) verdictBugsCard

/-- THE TIED CARD OF 'modelchecklaw43.RaceGraph'. -/
def raceGraphCard : Claim7 := { stood := { row := raceGraphRow, standIns := [], harness := (true, "26df014c139842711850b35034f5437e81c774227359981e26bdce19debfa390"), looks := false }, kinds := [], alts := [], laidByText := true, laidKinds := [.data, .data, .data], laidTests := true, laidLooks := .later }
def RaceGraphCardSaid : Prop := Claim7.holds Tryz.pinned (.plain (OpenSpec.ofChange raceGraphSpec)) raceGraphCard

/-- THE TIED CARD OF 'modelchecklaw43.RaceClocks'. -/
def raceClocksCard : Claim7 := { stood := { row := raceClocksRow, standIns := [], harness := (true, "26df014c139842711850b35034f5437e81c774227359981e26bdce19debfa390"), looks := false }, kinds := [], alts := [], laidByText := true, laidKinds := [.data, .data, .data], laidTests := true, laidLooks := .later }
def RaceClocksCardSaid : Prop := Claim7.holds Tryz.pinned (.plain (OpenSpec.ofChange raceClocksSpec)) raceClocksCard

/-- THE SECOND FORM's CARD OF 'modelchecklaw44.VerdictBugs'. -/
def verdictBugsUptoCard : Claim7 := { stood := { row := verdictBugsUptoRow, standIns := [], harness := (true, "26df014c139842711850b35034f5437e81c774227359981e26bdce19debfa390"), looks := false }, kinds := [], alts := [], laidByText := true, laidKinds := [.data, .data, .data], laidTests := true, laidLooks := .later }
def VerdictBugsUptoCardSaid : Prop := Claim7.holds Tryz.pinned (.plain (OpenSpec.upto verdictBugsSpec)) verdictBugsUptoCard

/-- THE SECOND FORM's CARD OF 'modelchecklaw43.RaceGraph'. -/
def raceGraphUptoCard : Claim7 := { stood := { row := raceGraphUptoRow, standIns := [], harness := (true, "26df014c139842711850b35034f5437e81c774227359981e26bdce19debfa390"), looks := false }, kinds := [], alts := [], laidByText := true, laidKinds := [.data, .data, .data], laidTests := true, laidLooks := .later }
def RaceGraphUptoCardSaid : Prop := Claim7.holds Tryz.pinned (.plain (OpenSpec.upto raceGraphSpec)) raceGraphUptoCard

/-- THE SECOND FORM's CARD OF 'modelchecklaw43.RaceClocks'. -/
def raceClocksUptoCard : Claim7 := { stood := { row := raceClocksUptoRow, standIns := [], harness := (true, "26df014c139842711850b35034f5437e81c774227359981e26bdce19debfa390"), looks := false }, kinds := [], alts := [], laidByText := true, laidKinds := [.data, .data, .data], laidTests := true, laidLooks := .later }
def RaceClocksUptoCardSaid : Prop := Claim7.holds Tryz.pinned (.plain (OpenSpec.upto raceClocksSpec)) raceClocksUptoCard
end Rows
end Go.Proofs.YtgaeajfoiigbkaaGreatDoor
