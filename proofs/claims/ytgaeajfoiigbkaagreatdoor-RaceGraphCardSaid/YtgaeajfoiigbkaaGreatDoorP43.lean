/- Parts of the proofs of the statement, joined and made short: XF3. -/
import Derived.ProofKit
import Derived.JoinedOf
import Derived.LaidMore
import Derived.OpenShut
import Derived.Stop.Joined
import Derived.Test.YtgaeajfoiigbkaaGreatDoorCards
import Derived.Test.YtgaeajfoiigbkaaGreatDoorTie
set_option linter.unusedVariables false
set_option linter.unusedSimpArgs false
set_option linter.unusedSectionVars false
namespace Go.Proofs.YtgaeajfoiigbkaaGreatDoor
open Go.ChangeShapes Go.WideShapes Go.RowKit
theorem vk12 : ((Rows.raceGraphRow.recurses == Tryz.prog.recurses (4 : FuncId))) = true:=by kernel_rfl
theorem vk13 : ((Rows.raceGraphRow.named == Tryz.prog.varsNamed (4 : FuncId))) = true:=by kernel_rfl
end Go.Proofs.YtgaeajfoiigbkaaGreatDoor
