/- Parts of the proofs of the statement, joined and made short: XF4 XF5 XF6. -/
import Derived.ProofKit
import Derived.JoinedOf
import Derived.LaidMore
import Derived.OpenShut
import Derived.Stop.Joined
import Derived.Test.YtgpmfmbhemjkgaaGreatDoorCards
import Derived.Test.YtgpmfmbhemjkgaaGreatDoorTie
set_option linter.unusedVariables false
set_option linter.unusedSimpArgs false
set_option linter.unusedSectionVars false
namespace Go.Proofs.YtgpmfmbhemjkgaaGreatDoor
open Go.ChangeShapes Go.WideShapes Go.RowKit
theorem vk14 : ((Rows.shortestOrderRow.maps == (Tryz.f3.params.toList ++ Rows.shortestOrderSpec.plain.varTypes Tryz.prog).any (Tryz.prog.mapsRec ·))) = true:=by kernel_rfl
theorem vk15 : ((Rows.shortestOrderRow.ifaces == (Tryz.f3.params.toList ++ Rows.shortestOrderSpec.plain.varTypes Tryz.prog).any (Tryz.prog.ifacesRec ·))) = true:=by kernel_rfl
theorem vk16 : ((Rows.shortestOrderRow.mapsOut == Tryz.prog.mapsAmong Tryz.f3.resultTypes.toList)) = true:=by kernel_rfl
theorem vk17 : ((Rows.shortestOrderRow.loops == (Tryz.f3.params.toList ++ Rows.shortestOrderSpec.plain.varTypes Tryz.prog).any (Tryz.prog.loopsFrom ·))) = true:=by kernel_rfl
theorem vk18 : ((Rows.shortestOrderRow.wideKeys == (Tryz.f3.params.toList ++ Rows.shortestOrderSpec.plain.varTypes Tryz.prog ++ Tryz.f3.resultTypes.toList).any (Tryz.prog.wideKeysFrom ·))) = true:=by kernel_rfl
theorem vk19 : (Rows.shortestOrderSpec.vars.all (Tryz.prog.varReadable ·)) = true:=by kernel_rfl
theorem vk20 : (Tryz.f3.resultTypes.all (fun t => Tryz.prog.readableRec t && decide (t < Tryz.prog.types.size))) = true:=by kernel_rfl
end Go.Proofs.YtgpmfmbhemjkgaaGreatDoor

namespace Go.Proofs.YtgpmfmbhemjkgaaGreatDoor
open Go.ChangeShapes Go.WideShapes Go.RowKit
theorem vk21 : ((Rows.shortestOrderRow.ifacesOut == Tryz.f3.resultTypes.toList.any (Tryz.prog.ifacesRec ·))) = true:=by kernel_rfl
theorem vk22 : ((Rows.shortestOrderRow.loopsOut == Tryz.f3.resultTypes.toList.any (Tryz.prog.loopsFrom ·))) = true:=by kernel_rfl
theorem vk23 : ((Rows.shortestOrderRow.plainKeys == Tryz.prog.plainKeys)) = true:=by kernel_rfl
theorem vk24 : (Rows.shortestOrderRow.shortTexts.isNone) = true:=by kernel_rfl
theorem vk25 : (Tryz.prog.stopsHeard) = true:=by kernel_rfl
theorem vk26 : (Tryz.prog.mayEnter) = true:=by kernel_rfl
theorem vk27 : ((Rows.shortestOrderRow.lifted == Tryz.prog.liftsFinal)) = true:=by kernel_rfl
theorem vk28 : ((Tryz.prog.make == some Rows.shortestOrderRow.make)) = true:=by kernel_rfl
theorem vk30 : ((Rows.shortestOrderRow.pinned == Rows.shortestOrderRow.pinnedBy)) = true:=by kernel_rfl
theorem vk31 : ((Rows.shortestOrderRow.veiled == (Tryz.f3.params.toList ++ Rows.shortestOrderSpec.plain.varTypes Tryz.prog ++ Tryz.f3.resultTypes.toList).any (Tryz.prog.veiledRec ·))) = true:=by kernel_rfl
theorem vk32 : (Rows.shortestOrderRow.veiledFits Tryz.prog Tryz.f3.params.toList (Tryz.f3.params.toList ++ Rows.shortestOrderSpec.plain.varTypes Tryz.prog ++ Tryz.f3.resultTypes.toList)) = true:=by kernel_rfl
end Go.Proofs.YtgpmfmbhemjkgaaGreatDoor

namespace Go.Proofs.YtgpmfmbhemjkgaaGreatDoor
open Go.ChangeShapes Go.WideShapes Go.RowKit
theorem va6 : Tryz.prog.funcNamed "modelcheck/modelchecklaw46.ShortestOrder" = some 3:=by kernel_rfl
theorem va7 : Tryz.f3.isInstance Tryz.prog Rows.shortestOrderRow.origin Rows.shortestOrderRow.targs:=of_decide_eq_true (by kernel_rfl)
theorem va8 : Tryz.f3.isWrapper Tryz.prog Rows.shortestOrderRow.wrapper Rows.shortestOrderRow.mainSum:=by unfold Func.isWrapper; first | (rw [if_pos (by decide +kernel)]; kernel_rfl) | (rw [if_neg (by decide +kernel)]; exact ⟨rfl,rfl⟩)
theorem vc1 : Rows.shortestOrderRow.wfByText (OpenSpec.ofChange Rows.shortestOrderSpec) = true:=by kernel_rfl
theorem vc2 : Tryz.prog.mainIs = some (true,"a54d1d6220fafbde34eeb291391ffeb3c205ab378274452e15caba2dc4157873".toList):=by kernel_rfl
theorem vc4 : Tryz.prog.wantsStandIn 33 = false:=by kernel_rfl
theorem vc5 : Tryz.prog.wantsStandIn 31 = false:=by kernel_rfl
end Go.Proofs.YtgpmfmbhemjkgaaGreatDoor
