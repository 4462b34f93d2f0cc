/- Parts of the proofs of the statement, joined and made short: XF4 XF5. -/
import Derived.ProofKit
import Derived.JoinedOf
import Derived.LaidMore
import Derived.OpenShut
import Derived.Stop.Joined
import Derived.Test.YtgaeajfoiigbkaaGreatDoorCards
import Derived.Test.YtgaeajfoiigbkaaGreatDoorTie
set_option linter.unusedVariables false
set_option linter.unusedSimpArgs false
set_option linter.unusedSectionVars false
namespace Go.Proofs.YtgaeajfoiigbkaaGreatDoor
open Go.ChangeShapes Go.WideShapes Go.RowKit
theorem vk14 : ((Rows.raceGraphRow.maps == (Tryz.f4.params.toList ++ Rows.raceGraphSpec.plain.varTypes Tryz.prog).any (Tryz.prog.mapsRec ·))) = true:=by kernel_rfl
theorem vk15 : ((Rows.raceGraphRow.ifaces == (Tryz.f4.params.toList ++ Rows.raceGraphSpec.plain.varTypes Tryz.prog).any (Tryz.prog.ifacesRec ·))) = true:=by kernel_rfl
theorem vk16 : ((Rows.raceGraphRow.mapsOut == Tryz.prog.mapsAmong Tryz.f4.resultTypes.toList)) = true:=by kernel_rfl
theorem vk17 : ((Rows.raceGraphRow.loops == (Tryz.f4.params.toList ++ Rows.raceGraphSpec.plain.varTypes Tryz.prog).any (Tryz.prog.loopsFrom ·))) = true:=by kernel_rfl
theorem vk18 : ((Rows.raceGraphRow.wideKeys == (Tryz.f4.params.toList ++ Rows.raceGraphSpec.plain.varTypes Tryz.prog ++ Tryz.f4.resultTypes.toList).any (Tryz.prog.wideKeysFrom ·))) = true:=by kernel_rfl
theorem vk19 : (Rows.raceGraphSpec.vars.all (Tryz.prog.varReadable ·)) = true:=by kernel_rfl
theorem vk20 : (Tryz.f4.resultTypes.all (fun t => Tryz.prog.readableRec t && decide (t < Tryz.prog.types.size))) = true:=by kernel_rfl
end Go.Proofs.YtgaeajfoiigbkaaGreatDoor

namespace Go.Proofs.YtgaeajfoiigbkaaGreatDoor
open Go.ChangeShapes Go.WideShapes Go.RowKit
theorem vk21 : ((Rows.raceGraphRow.ifacesOut == Tryz.f4.resultTypes.toList.any (Tryz.prog.ifacesRec ·))) = true:=by kernel_rfl
theorem vk22 : ((Rows.raceGraphRow.loopsOut == Tryz.f4.resultTypes.toList.any (Tryz.prog.loopsFrom ·))) = true:=by kernel_rfl
theorem vk23 : ((Rows.raceGraphRow.plainKeys == Tryz.prog.plainKeys)) = true:=by kernel_rfl
theorem vk24 : (Rows.raceGraphRow.shortTexts.isNone) = true:=by kernel_rfl
theorem vk25 : (Tryz.prog.stopsHeard) = true:=by kernel_rfl
theorem vk26 : (Tryz.prog.mayEnter) = true:=by kernel_rfl
theorem vk27 : ((Rows.raceGraphRow.lifted == Tryz.prog.liftsFinal)) = true:=by kernel_rfl
theorem vk28 : ((Tryz.prog.make == some Rows.raceGraphRow.make)) = true:=by kernel_rfl
theorem vk30 : ((Rows.raceGraphRow.pinned == Rows.raceGraphRow.pinnedBy)) = true:=by kernel_rfl
theorem vk31 : ((Rows.raceGraphRow.veiled == (Tryz.f4.params.toList ++ Rows.raceGraphSpec.plain.varTypes Tryz.prog ++ Tryz.f4.resultTypes.toList).any (Tryz.prog.veiledRec ·))) = true:=by kernel_rfl
theorem vk32 : (Rows.raceGraphRow.veiledFits Tryz.prog Tryz.f4.params.toList (Tryz.f4.params.toList ++ Rows.raceGraphSpec.plain.varTypes Tryz.prog ++ Tryz.f4.resultTypes.toList)) = true:=by kernel_rfl
end Go.Proofs.YtgaeajfoiigbkaaGreatDoor
