/- Parts of the proofs of the statement, joined and made short: XF4 XF5. -/
import Derived.ProofKit
import Derived.JoinedOf
import Derived.LaidMore
import Derived.OpenShut
import Derived.Stop.Joined
import Derived.Test.YtgaeajfoiigbkaaGreatDoorCards
import Derived.Test.YtgaeajfoiigbkaaGreatDoorTie
set_option linter.unusedVariables false
set_option linter.unusedSimpArgs false
set_option linter.unusedSectionVars false
namespace Go.Proofs.YtgaeajfoiigbkaaGreatDoor
open Go.ChangeShapes Go.WideShapes Go.RowKit
theorem vk14 : ((Rows.raceClocksRow.maps == (Tryz.f5.params.toList ++ Rows.raceClocksSpec.plain.varTypes Tryz.prog).any (Tryz.prog.mapsRec ·))) = true:=by kernel_rfl
theorem vk15 : ((Rows.raceClocksRow.ifaces == (Tryz.f5.params.toList ++ Rows.raceClocksSpec.plain.varTypes Tryz.prog).any (Tryz.prog.ifacesRec ·))) = true:=by kernel_rfl
theorem vk16 : ((Rows.raceClocksRow.mapsOut == Tryz.prog.mapsAmong Tryz.f5.resultTypes.toList)) = true:=by kernel_rfl
theorem vk17 : ((Rows.raceClocksRow.loops == (Tryz.f5.params.toList ++ Rows.raceClocksSpec.plain.varTypes Tryz.prog).any (Tryz.prog.loopsFrom ·))) = true:=by kernel_rfl
theorem vk18 : ((Rows.raceClocksRow.wideKeys == (Tryz.f5.params.toList ++ Rows.raceClocksSpec.plain.varTypes Tryz.prog ++ Tryz.f5.resultTypes.toList).any (Tryz.prog.wideKeysFrom ·))) = true:=by kernel_rfl
theorem vk19 : (Rows.raceClocksSpec.vars.all (Tryz.prog.varReadable ·)) = true:=by kernel_rfl
theorem vk20 : (Tryz.f5.resultTypes.all (fun t => Tryz.prog.readableRec t && decide (t < Tryz.prog.types.size))) = true:=by kernel_rfl
end Go.Proofs.YtgaeajfoiigbkaaGreatDoor

namespace Go.Proofs.YtgaeajfoiigbkaaGreatDoor
open Go.ChangeShapes Go.WideShapes Go.RowKit
theorem vk21 : ((Rows.raceClocksRow.ifacesOut == Tryz.f5.resultTypes.toList.any (Tryz.prog.ifacesRec ·))) = true:=by kernel_rfl
theorem vk22 : ((Rows.raceClocksRow.loopsOut == Tryz.f5.resultTypes.toList.any (Tryz.prog.loopsFrom ·))) = true:=by kernel_rfl
theorem vk23 : ((Rows.raceClocksRow.plainKeys == Tryz.prog.plainKeys)) = true:=by kernel_rfl
theorem vk24 : (Rows.raceClocksRow.shortTexts.isNone) = true:=by kernel_rfl
theorem vk25 : (Tryz.prog.stopsHeard) = true:=by kernel_rfl
theorem vk26 : (Tryz.prog.mayEnter) = true:=by kernel_rfl
theorem vk27 : ((Rows.raceClocksRow.lifted == Tryz.prog.liftsFinal)) = true:=by kernel_rfl
theorem vk28 : ((Tryz.prog.make == some Rows.raceClocksRow.make)) = true:=by kernel_rfl
theorem vk30 : ((Rows.raceClocksRow.pinned == Rows.raceClocksRow.pinnedBy)) = true:=by kernel_rfl
theorem vk31 : ((Rows.raceClocksRow.veiled == (Tryz.f5.params.toList ++ Rows.raceClocksSpec.plain.varTypes Tryz.prog ++ Tryz.f5.resultTypes.toList).any (Tryz.prog.veiledRec ·))) = true:=by kernel_rfl
theorem vk32 : (Rows.raceClocksRow.veiledFits Tryz.prog Tryz.f5.params.toList (Tryz.f5.params.toList ++ Rows.raceClocksSpec.plain.varTypes Tryz.prog ++ Tryz.f5.resultTypes.toList)) = true:=by kernel_rfl
end Go.Proofs.YtgaeajfoiigbkaaGreatDoor
