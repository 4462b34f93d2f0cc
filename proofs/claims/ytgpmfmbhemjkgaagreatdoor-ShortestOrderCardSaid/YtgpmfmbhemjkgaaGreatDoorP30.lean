/- Parts of the proofs of the statement, joined and made short: XF3. -/
import Derived.ProofKit
import Derived.JoinedOf
import Derived.LaidMore
import Derived.OpenShut
import Derived.Stop.Joined
import Derived.Test.YtgpmfmbhemjkgaaGreatDoorCards
import Derived.Test.YtgpmfmbhemjkgaaGreatDoorTie
set_option linter.unusedVariables false
set_option linter.unusedSimpArgs false
set_option linter.unusedSectionVars false
namespace Go.Proofs.YtgpmfmbhemjkgaaGreatDoor
open Go.ChangeShapes Go.WideShapes Go.RowKit
theorem vk12 : ((Rows.shortestOrderRow.recurses == Tryz.prog.recurses (3 : FuncId))) = true:=by kernel_rfl
theorem vk13 : ((Rows.shortestOrderRow.named == Tryz.prog.varsNamed (3 : FuncId))) = true:=by kernel_rfl
end Go.Proofs.YtgpmfmbhemjkgaaGreatDoor
