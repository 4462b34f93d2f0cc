/- Parts of the proofs of the statement, joined: VF1. -/
import Derived.ProofKit
import Derived.JoinedOf
import Derived.LaidMore
import Derived.OpenShut
import Derived.Stop.Joined
import Derived.Test.YtkogmedfilgneaaGreatDoorCards
import Derived.Test.YtkogmedfilgneaaGreatDoorTie

namespace Go.Proofs.YtkogmedfilgneaaGreatDoor
open Go.ChangeShapes Go.WideShapes Go.RowKit
theorem vk1 : (Rows.verdictBugsRow.wf (OpenSpec.ofChange Rows.verdictBugsSpec)) = true := by kernel_rfl
theorem vk2 : (laidOutB Tryz.prog) = true := by kernel_rfl
theorem vk3 : (mapsRowed Tryz.prog) = true := by kernel_rfl
theorem vk4 : (Tryz.f3.params.all (Tryz.prog.readableRec ·)) = true := by kernel_rfl
theorem vk5 : (namedTie Tryz.prog Rows.verdictBugsRow.named Rows.verdictBugsSpec.vars) = true := by kernel_rfl
theorem vk6 : ((Rows.verdictBugsRow.stops == [])) = true := by kernel_rfl
theorem vk7 : ((Tryz.prog.stops == [])) = true := by kernel_rfl
theorem vk8 : ((Rows.verdictBugsRow.knobs == [])) = true := by kernel_rfl
theorem vk9 : ((Tryz.prog.stopKnobs == [])) = true := by kernel_rfl
end Go.Proofs.YtkogmedfilgneaaGreatDoor
