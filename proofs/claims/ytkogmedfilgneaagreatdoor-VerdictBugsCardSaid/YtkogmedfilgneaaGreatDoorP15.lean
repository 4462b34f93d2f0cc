/- Parts of the proofs of the statement, joined: VF3. -/
import Derived.ProofKit
import Derived.JoinedOf
import Derived.LaidMore
import Derived.OpenShut
import Derived.Stop.Joined
import Derived.Test.YtkogmedfilgneaaGreatDoorCards
import Derived.Test.YtkogmedfilgneaaGreatDoorTie

namespace Go.Proofs.YtkogmedfilgneaaGreatDoor
open Go.ChangeShapes Go.WideShapes Go.RowKit
theorem vk12 : ((Rows.verdictBugsRow.recurses == Tryz.prog.recurses (3 : FuncId))) = true := by kernel_rfl
theorem vk13 : ((Rows.verdictBugsRow.named == Tryz.prog.varsNamed (3 : FuncId))) = true := by kernel_rfl
end Go.Proofs.YtkogmedfilgneaaGreatDoor
