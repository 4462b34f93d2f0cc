/- Parts of the proofs of the statement, joined: VF5. -/
import Derived.ProofKit
import Derived.JoinedOf
import Derived.LaidMore
import Derived.OpenShut
import Derived.Stop.Joined
import Derived.Test.YtkogmedfilgneaaGreatDoorCards
import Derived.Test.YtkogmedfilgneaaGreatDoorTie

namespace Go.Proofs.YtkogmedfilgneaaGreatDoor
open Go.ChangeShapes Go.WideShapes Go.RowKit
theorem vk21 : ((Rows.verdictBugsRow.ifacesOut == Tryz.f3.resultTypes.toList.any (Tryz.prog.ifacesRec ·))) = true := by kernel_rfl
theorem vk22 : ((Rows.verdictBugsRow.loopsOut == Tryz.f3.resultTypes.toList.any (Tryz.prog.loopsFrom ·))) = true := by kernel_rfl
theorem vk23 : ((Rows.verdictBugsRow.plainKeys == Tryz.prog.plainKeys)) = true := by kernel_rfl
theorem vk24 : (Rows.verdictBugsRow.shortTexts.isNone) = true := by kernel_rfl
theorem vk25 : (Tryz.prog.stopsHeard) = true := by kernel_rfl
theorem vk26 : (Tryz.prog.mayEnter) = true := by kernel_rfl
theorem vk27 : ((Rows.verdictBugsRow.lifted == Tryz.prog.liftsFinal)) = true := by kernel_rfl
theorem vk28 : ((Tryz.prog.make == some Rows.verdictBugsRow.make)) = true := by kernel_rfl
theorem vk29 : ((Rows.verdictBugsRow.kinds == (if Rows.verdictBugsRow.domain.isEmpty then [] else Tryz.f3.params.toList.map fun t => match Tryz.prog.underlying t with | some (.int k) => some k | _ => none))) = true := by kernel_rfl
theorem vk30 : ((Rows.verdictBugsRow.pinned == Rows.verdictBugsRow.pinnedBy)) = true := by kernel_rfl
theorem vk31 : ((Rows.verdictBugsRow.veiled == (Tryz.f3.params.toList ++ Rows.verdictBugsSpec.plain.varTypes Tryz.prog ++ Tryz.f3.resultTypes.toList).any (Tryz.prog.veiledRec ·))) = true := by kernel_rfl
theorem vk32 : (Rows.verdictBugsRow.veiledFits Tryz.prog Tryz.f3.params.toList (Tryz.f3.params.toList ++ Rows.verdictBugsSpec.plain.varTypes Tryz.prog ++ Tryz.f3.resultTypes.toList)) = true := by kernel_rfl
end Go.Proofs.YtkogmedfilgneaaGreatDoor
