/- Parts of the proofs of the statement, joined and made short: XF4. -/
import Derived.ProofKit
import Derived.JoinedOf
import Derived.LaidMore
import Derived.OpenShut
import Derived.Stop.Joined
import Derived.Test.YtmoibjjpfemgjaaGreatDoorCards
import Derived.Test.YtmoibjjpfemgjaaGreatDoorTie
set_option linter.unusedVariables false
set_option linter.unusedSimpArgs false
set_option linter.unusedSectionVars false
namespace Go.Proofs.YtmoibjjpfemgjaaGreatDoor
open Go.ChangeShapes Go.WideShapes Go.RowKit
theorem vk14:((Rows.viewsMonotoneRow.maps==(Tryz.f5.params.toList++Rows.viewsMonotoneSpec.plain.varTypes Tryz.prog).any (Tryz.prog.mapsRec ·)))=true:=by kernel_rfl
theorem vk15:((Rows.viewsMonotoneRow.ifaces==(Tryz.f5.params.toList++Rows.viewsMonotoneSpec.plain.varTypes Tryz.prog).any (Tryz.prog.ifacesRec ·)))=true:=by kernel_rfl
theorem vk16:((Rows.viewsMonotoneRow.mapsOut==Tryz.prog.mapsAmong Tryz.f5.resultTypes.toList))=true:=by kernel_rfl
theorem vk17:((Rows.viewsMonotoneRow.loops==(Tryz.f5.params.toList++Rows.viewsMonotoneSpec.plain.varTypes Tryz.prog).any (Tryz.prog.loopsFrom ·)))=true:=by kernel_rfl
theorem vk18:((Rows.viewsMonotoneRow.wideKeys==(Tryz.f5.params.toList++Rows.viewsMonotoneSpec.plain.varTypes Tryz.prog++Tryz.f5.resultTypes.toList).any (Tryz.prog.wideKeysFrom ·)))=true:=by kernel_rfl
theorem vk19:(Rows.viewsMonotoneSpec.vars.all (Tryz.prog.varReadable ·))=true:=by kernel_rfl
theorem vk20:(Tryz.f5.resultTypes.all (fun t=>Tryz.prog.readableRec t&&decide (t<Tryz.prog.types.size)))=true:=by kernel_rfl
end Go.Proofs.YtmoibjjpfemgjaaGreatDoor
