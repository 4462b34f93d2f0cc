/- Parts of the proofs of the statement, joined and made short: XF3. -/
import Derived.ProofKit
import Derived.JoinedOf
import Derived.LaidMore
import Derived.OpenShut
import Derived.Stop.Joined
import Derived.Test.YtmoibjjpfemgjaaGreatDoorCards
import Derived.Test.YtmoibjjpfemgjaaGreatDoorTie
set_option linter.unusedVariables false
set_option linter.unusedSimpArgs false
set_option linter.unusedSectionVars false
namespace Go.Proofs.YtmoibjjpfemgjaaGreatDoor
open Go.ChangeShapes Go.WideShapes Go.RowKit
theorem vk12:((Rows.viewsMessagesRow.recurses==Tryz.prog.recurses (7:FuncId)))=true:=by kernel_rfl
theorem vk13:((Rows.viewsMessagesRow.named==Tryz.prog.varsNamed (7:FuncId)))=true:=by kernel_rfl
end Go.Proofs.YtmoibjjpfemgjaaGreatDoor
