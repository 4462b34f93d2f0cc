/- Parts of the proofs of the statement, joined: VF7. -/
import Derived.ProofKit
import Derived.JoinedOf
import Derived.LaidMore
import Derived.OpenShut
import Derived.Stop.Joined
import Derived.Test.YtkogmedfilgneaaGreatDoorCards
import Derived.Test.YtkogmedfilgneaaGreatDoorTie

namespace Go.Proofs.YtkogmedfilgneaaGreatDoor
open Go.ChangeShapes Go.WideShapes Go.RowKit
theorem vc3 : false = Tryz.prog.looks [] := by kernel_rfl
theorem vc6 : false = Rows.verdictBugsRow.goesBy Tryz.prog := by kernel_rfl
end Go.Proofs.YtkogmedfilgneaaGreatDoor
