/- Parts of the proofs of the statement, joined and made short: XF7. -/
import Derived.ProofKit
import Derived.JoinedOf
import Derived.LaidMore
import Derived.OpenShut
import Derived.Stop.Joined
import Derived.Test.YtmoibjjpfemgjaaGreatDoorCards
import Derived.Test.YtmoibjjpfemgjaaGreatDoorTie
set_option linter.unusedVariables false
set_option linter.unusedSimpArgs false
set_option linter.unusedSectionVars false
namespace Go.Proofs.YtmoibjjpfemgjaaGreatDoor
open Go.ChangeShapes Go.WideShapes Go.RowKit
theorem vc3:false=Tryz.prog.looks []:=by kernel_rfl
theorem vc6:false=Rows.viewsMessagesRow.goesBy Tryz.prog:=by kernel_rfl
end Go.Proofs.YtmoibjjpfemgjaaGreatDoor
