/- Parts of the proofs of the statement, joined and made short: XF4. -/
import Derived.ProofKit
import Derived.JoinedOf
import Derived.LaidMore
import Derived.OpenShut
import Derived.Stop.Joined
import Derived.Test.YtmoibjjpfemgjaaGreatDoorCards
import Derived.Test.YtmoibjjpfemgjaaGreatDoorTie
set_option linter.unusedVariables false
set_option linter.unusedSimpArgs false
set_option linter.unusedSectionVars false
namespace Go.Proofs.YtmoibjjpfemgjaaGreatDoor
open Go.ChangeShapes Go.WideShapes Go.RowKit
theorem vk14:((Rows.viewsCoherentRow.maps==(Tryz.f6.params.toList++Rows.viewsCoherentSpec.plain.varTypes Tryz.prog).any (Tryz.prog.mapsRec ·)))=true:=by kernel_rfl
theorem vk15:((Rows.viewsCoherentRow.ifaces==(Tryz.f6.params.toList++Rows.viewsCoherentSpec.plain.varTypes Tryz.prog).any (Tryz.prog.ifacesRec ·)))=true:=by kernel_rfl
theorem vk16:((Rows.viewsCoherentRow.mapsOut==Tryz.prog.mapsAmong Tryz.f6.resultTypes.toList))=true:=by kernel_rfl
theorem vk17:((Rows.viewsCoherentRow.loops==(Tryz.f6.params.toList++Rows.viewsCoherentSpec.plain.varTypes Tryz.prog).any (Tryz.prog.loopsFrom ·)))=true:=by kernel_rfl
theorem vk18:((Rows.viewsCoherentRow.wideKeys==(Tryz.f6.params.toList++Rows.viewsCoherentSpec.plain.varTypes Tryz.prog++Tryz.f6.resultTypes.toList).any (Tryz.prog.wideKeysFrom ·)))=true:=by kernel_rfl
theorem vk19:(Rows.viewsCoherentSpec.vars.all (Tryz.prog.varReadable ·))=true:=by kernel_rfl
theorem vk20:(Tryz.f6.resultTypes.all (fun t=>Tryz.prog.readableRec t&&decide (t<Tryz.prog.types.size)))=true:=by kernel_rfl
end Go.Proofs.YtmoibjjpfemgjaaGreatDoor
