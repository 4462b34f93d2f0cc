/- Parts of the proofs of the statement, joined and made short: XF4. -/
import Derived.ProofKit
import Derived.JoinedOf
import Derived.LaidMore
import Derived.OpenShut
import Derived.Stop.Joined
import Derived.Test.YtmoibjjpfemgjaaGreatDoorCards
import Derived.Test.YtmoibjjpfemgjaaGreatDoorTie
set_option linter.unusedVariables false
set_option linter.unusedSimpArgs false
set_option linter.unusedSectionVars false
namespace Go.Proofs.YtmoibjjpfemgjaaGreatDoor
open Go.ChangeShapes Go.WideShapes Go.RowKit
theorem vk14:((Rows.viewsMessagesRow.maps==(Tryz.f7.params.toList++Rows.viewsMessagesSpec.plain.varTypes Tryz.prog).any (Tryz.prog.mapsRec ·)))=true:=by kernel_rfl
theorem vk15:((Rows.viewsMessagesRow.ifaces==(Tryz.f7.params.toList++Rows.viewsMessagesSpec.plain.varTypes Tryz.prog).any (Tryz.prog.ifacesRec ·)))=true:=by kernel_rfl
theorem vk16:((Rows.viewsMessagesRow.mapsOut==Tryz.prog.mapsAmong Tryz.f7.resultTypes.toList))=true:=by kernel_rfl
theorem vk17:((Rows.viewsMessagesRow.loops==(Tryz.f7.params.toList++Rows.viewsMessagesSpec.plain.varTypes Tryz.prog).any (Tryz.prog.loopsFrom ·)))=true:=by kernel_rfl
theorem vk18:((Rows.viewsMessagesRow.wideKeys==(Tryz.f7.params.toList++Rows.viewsMessagesSpec.plain.varTypes Tryz.prog++Tryz.f7.resultTypes.toList).any (Tryz.prog.wideKeysFrom ·)))=true:=by kernel_rfl
theorem vk19:(Rows.viewsMessagesSpec.vars.all (Tryz.prog.varReadable ·))=true:=by kernel_rfl
theorem vk20:(Tryz.f7.resultTypes.all (fun t=>Tryz.prog.readableRec t&&decide (t<Tryz.prog.types.size)))=true:=by kernel_rfl
end Go.Proofs.YtmoibjjpfemgjaaGreatDoor
