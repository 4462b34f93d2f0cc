/- Parts of the proofs of the statement, joined and made short: XF5. -/
import Derived.ProofKit
import Derived.JoinedOf
import Derived.LaidMore
import Derived.OpenShut
import Derived.Stop.Joined
import Derived.Test.YtmoibjjpfemgjaaGreatDoorCards
import Derived.Test.YtmoibjjpfemgjaaGreatDoorTie
set_option linter.unusedVariables false
set_option linter.unusedSimpArgs false
set_option linter.unusedSectionVars false
namespace Go.Proofs.YtmoibjjpfemgjaaGreatDoor
open Go.ChangeShapes Go.WideShapes Go.RowKit
theorem vk21:((Rows.viewsMessagesRow.ifacesOut==Tryz.f7.resultTypes.toList.any (Tryz.prog.ifacesRec ·)))=true:=by kernel_rfl
theorem vk22:((Rows.viewsMessagesRow.loopsOut==Tryz.f7.resultTypes.toList.any (Tryz.prog.loopsFrom ·)))=true:=by kernel_rfl
theorem vk23:((Rows.viewsMessagesRow.plainKeys==Tryz.prog.plainKeys))=true:=by kernel_rfl
theorem vk24:(Rows.viewsMessagesRow.shortTexts.isNone)=true:=by kernel_rfl
theorem vk25:(Tryz.prog.stopsHeard)=true:=by kernel_rfl
theorem vk26:(Tryz.prog.mayEnter)=true:=by kernel_rfl
theorem vk27:((Rows.viewsMessagesRow.lifted==Tryz.prog.liftsFinal))=true:=by kernel_rfl
theorem vk28:((Tryz.prog.make==some Rows.viewsMessagesRow.make))=true:=by kernel_rfl
theorem vk30:((Rows.viewsMessagesRow.pinned==Rows.viewsMessagesRow.pinnedBy))=true:=by kernel_rfl
theorem vk31:((Rows.viewsMessagesRow.veiled==(Tryz.f7.params.toList++Rows.viewsMessagesSpec.plain.varTypes Tryz.prog++Tryz.f7.resultTypes.toList).any (Tryz.prog.veiledRec ·)))=true:=by kernel_rfl
theorem vk32:(Rows.viewsMessagesRow.veiledFits Tryz.prog Tryz.f7.params.toList (Tryz.f7.params.toList++Rows.viewsMessagesSpec.plain.varTypes Tryz.prog++Tryz.f7.resultTypes.toList))=true:=by kernel_rfl
end Go.Proofs.YtmoibjjpfemgjaaGreatDoor
