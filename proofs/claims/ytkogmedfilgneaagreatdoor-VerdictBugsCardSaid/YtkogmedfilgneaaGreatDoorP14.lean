/- Parts of the proofs of the statement, joined: VF2. -/
import Derived.ProofKit
import Derived.JoinedOf
import Derived.LaidMore
import Derived.OpenShut
import Derived.Stop.Joined
import Derived.Test.YtkogmedfilgneaaGreatDoorCards
import Derived.Test.YtkogmedfilgneaaGreatDoorTie

namespace Go.Proofs.YtkogmedfilgneaaGreatDoor
open Go.ChangeShapes Go.WideShapes Go.RowKit
theorem vk10 : ((Rows.verdictBugsRow.inPlace == Tryz.prog.inPlace (3 : FuncId))) = true := by kernel_rfl
theorem vk11 : ((Rows.verdictBugsRow.unfollowed == Tryz.prog.unfollowed (3 : FuncId))) = true := by kernel_rfl
end Go.Proofs.YtkogmedfilgneaaGreatDoor
