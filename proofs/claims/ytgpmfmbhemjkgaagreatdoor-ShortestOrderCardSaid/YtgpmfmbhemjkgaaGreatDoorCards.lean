/-
  DERIVED. GIVEN WITH THE SEED: THE CARDS: each row of YtgpmfmbhemjkgaaGreatDoorRows.lean that lists a variable, with what it lists TIED to the program's text (the seventh form; the later family's looks); each row that meets fmt, with fmt's text TOLD by the authors' own Lean function (tested against real Go, not proved from fmt's source: count such statements apart). THE CARD IS WHAT COUNTS. Prove the row's statement (the work); the ties are given (YtgpmfmbhemjkgaaGreatDoorTie.lean); close each card by the builder's one call (the guide's Derived/Test/ToyasCard.lean, 'card_holds'). Laid BY PROGRAM, IN A SANDBOX (cutbox-door.mjs). By AI agents, Wed Nov 11 2026. No macro, syntax, notation, axiom, sorry.
-/
import Derived.Test.YtgpmfmbhemjkgaaGreatDoorRows
import GoSem.ClaimSeven
namespace Go.Proofs.YtgpmfmbhemjkgaaGreatDoor
namespace Rows

/-- THE TIED CARD OF 'modelchecklaw46.ShortestOrder'. -/
def shortestOrderCard : Claim7 := { stood := { row := shortestOrderRow, standIns := [], harness := (true, "a54d1d6220fafbde34eeb291391ffeb3c205ab378274452e15caba2dc4157873"), looks := false }, kinds := [], alts := [], laidByText := true, laidKinds := [.data, .data, .data], laidTests := true, laidLooks := .later }
def ShortestOrderCardSaid : Prop := Claim7.holds Tryz.pinned (.plain (OpenSpec.ofChange shortestOrderSpec)) shortestOrderCard

/-- THE SECOND FORM's CARD OF 'modelchecklaw46.ShortestOrder'. -/
def shortestOrderUptoCard : Claim7 := { stood := { row := shortestOrderUptoRow, standIns := [], harness := (true, "a54d1d6220fafbde34eeb291391ffeb3c205ab378274452e15caba2dc4157873"), looks := false }, kinds := [], alts := [], laidByText := true, laidKinds := [.data, .data, .data], laidTests := true, laidLooks := .later }
def ShortestOrderUptoCardSaid : Prop := Claim7.holds Tryz.pinned (.plain (OpenSpec.upto shortestOrderSpec)) shortestOrderUptoCard
end Rows
end Go.Proofs.YtgpmfmbhemjkgaaGreatDoor
