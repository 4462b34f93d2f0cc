/- Parts of the proofs of the statement, joined: VF4. -/
import Derived.ProofKit
import Derived.JoinedOf
import Derived.LaidMore
import Derived.OpenShut
import Derived.Stop.Joined
import Derived.Test.YtkogmedfilgneaaGreatDoorCards
import Derived.Test.YtkogmedfilgneaaGreatDoorTie

namespace Go.Proofs.YtkogmedfilgneaaGreatDoor
open Go.ChangeShapes Go.WideShapes Go.RowKit
theorem vk14 : ((Rows.verdictBugsRow.maps == (Tryz.f3.params.toList ++ Rows.verdictBugsSpec.plain.varTypes Tryz.prog).any (Tryz.prog.mapsRec ·))) = true := by kernel_rfl
theorem vk15 : ((Rows.verdictBugsRow.ifaces == (Tryz.f3.params.toList ++ Rows.verdictBugsSpec.plain.varTypes Tryz.prog).any (Tryz.prog.ifacesRec ·))) = true := by kernel_rfl
theorem vk16 : ((Rows.verdictBugsRow.mapsOut == Tryz.prog.mapsAmong Tryz.f3.resultTypes.toList)) = true := by kernel_rfl
theorem vk17 : ((Rows.verdictBugsRow.loops == (Tryz.f3.params.toList ++ Rows.verdictBugsSpec.plain.varTypes Tryz.prog).any (Tryz.prog.loopsFrom ·))) = true := by kernel_rfl
theorem vk18 : ((Rows.verdictBugsRow.wideKeys == (Tryz.f3.params.toList ++ Rows.verdictBugsSpec.plain.varTypes Tryz.prog ++ Tryz.f3.resultTypes.toList).any (Tryz.prog.wideKeysFrom ·))) = true := by kernel_rfl
theorem vk19 : (Rows.verdictBugsSpec.vars.all (Tryz.prog.varReadable ·)) = true := by kernel_rfl
theorem vk20 : (Tryz.f3.resultTypes.all (fun t => Tryz.prog.readableRec t && decide (t < Tryz.prog.types.size))) = true := by kernel_rfl
end Go.Proofs.YtkogmedfilgneaaGreatDoor
