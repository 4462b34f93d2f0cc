/- Parts of the proofs of the statement, joined and made short: XF2. -/
import Derived.ProofKit
import Derived.JoinedOf
import Derived.LaidMore
import Derived.OpenShut
import Derived.Stop.Joined
import Derived.Test.YtgaeajfoiigbkaaGreatDoorCards
import Derived.Test.YtgaeajfoiigbkaaGreatDoorTie
set_option linter.unusedVariables false
set_option linter.unusedSimpArgs false
set_option linter.unusedSectionVars false
namespace Go.Proofs.YtgaeajfoiigbkaaGreatDoor
open Go.ChangeShapes Go.WideShapes Go.RowKit
theorem vk10 : ((Rows.raceGraphRow.inPlace == Tryz.prog.inPlace (4 : FuncId))) = true:=by kernel_rfl
theorem vk11 : ((Rows.raceGraphRow.unfollowed == Tryz.prog.unfollowed (4 : FuncId))) = true:=by kernel_rfl
end Go.Proofs.YtgaeajfoiigbkaaGreatDoor
