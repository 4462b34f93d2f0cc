/- Parts of the proofs of the statement, joined and made short: XF2. -/
import Derived.ProofKit
import Derived.JoinedOf
import Derived.LaidMore
import Derived.OpenShut
import Derived.Stop.Joined
import Derived.Test.YtmoibjjpfemgjaaGreatDoorCards
import Derived.Test.YtmoibjjpfemgjaaGreatDoorTie
set_option linter.unusedVariables false
set_option linter.unusedSimpArgs false
set_option linter.unusedSectionVars false
namespace Go.Proofs.YtmoibjjpfemgjaaGreatDoor
open Go.ChangeShapes Go.WideShapes Go.RowKit
theorem vk10:((Rows.viewsMessagesRow.inPlace==Tryz.prog.inPlace (7:FuncId)))=true:=by kernel_rfl
theorem vk11:((Rows.viewsMessagesRow.unfollowed==Tryz.prog.unfollowed (7:FuncId)))=true:=by kernel_rfl
end Go.Proofs.YtmoibjjpfemgjaaGreatDoor
