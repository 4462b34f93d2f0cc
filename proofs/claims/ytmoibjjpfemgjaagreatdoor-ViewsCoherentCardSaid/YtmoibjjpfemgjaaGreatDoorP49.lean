/- Parts of the proofs of the statement, joined and made short: XF5. -/
import Derived.ProofKit
import Derived.JoinedOf
import Derived.LaidMore
import Derived.OpenShut
import Derived.Stop.Joined
import Derived.Test.YtmoibjjpfemgjaaGreatDoorCards
import Derived.Test.YtmoibjjpfemgjaaGreatDoorTie
set_option linter.unusedVariables false
set_option linter.unusedSimpArgs false
set_option linter.unusedSectionVars false
namespace Go.Proofs.YtmoibjjpfemgjaaGreatDoor
open Go.ChangeShapes Go.WideShapes Go.RowKit
theorem vk21:((Rows.viewsCoherentRow.ifacesOut==Tryz.f6.resultTypes.toList.any (Tryz.prog.ifacesRec ·)))=true:=by kernel_rfl
theorem vk22:((Rows.viewsCoherentRow.loopsOut==Tryz.f6.resultTypes.toList.any (Tryz.prog.loopsFrom ·)))=true:=by kernel_rfl
theorem vk23:((Rows.viewsCoherentRow.plainKeys==Tryz.prog.plainKeys))=true:=by kernel_rfl
theorem vk24:(Rows.viewsCoherentRow.shortTexts.isNone)=true:=by kernel_rfl
theorem vk25:(Tryz.prog.stopsHeard)=true:=by kernel_rfl
theorem vk26:(Tryz.prog.mayEnter)=true:=by kernel_rfl
theorem vk27:((Rows.viewsCoherentRow.lifted==Tryz.prog.liftsFinal))=true:=by kernel_rfl
theorem vk28:((Tryz.prog.make==some Rows.viewsCoherentRow.make))=true:=by kernel_rfl
theorem vk30:((Rows.viewsCoherentRow.pinned==Rows.viewsCoherentRow.pinnedBy))=true:=by kernel_rfl
theorem vk31:((Rows.viewsCoherentRow.veiled==(Tryz.f6.params.toList++Rows.viewsCoherentSpec.plain.varTypes Tryz.prog++Tryz.f6.resultTypes.toList).any (Tryz.prog.veiledRec ·)))=true:=by kernel_rfl
theorem vk32:(Rows.viewsCoherentRow.veiledFits Tryz.prog Tryz.f6.params.toList (Tryz.f6.params.toList++Rows.viewsCoherentSpec.plain.varTypes Tryz.prog++Tryz.f6.resultTypes.toList))=true:=by kernel_rfl
end Go.Proofs.YtmoibjjpfemgjaaGreatDoor
