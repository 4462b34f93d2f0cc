/- Parts of the proofs of the statement, joined and made short: XF2. -/
import Derived.ProofKit
import Derived.JoinedOf
import Derived.LaidMore
import Derived.OpenShut
import Derived.Stop.Joined
import Derived.Test.YtgpmfmbhemjkgaaGreatDoorCards
import Derived.Test.YtgpmfmbhemjkgaaGreatDoorTie
set_option linter.unusedVariables false
set_option linter.unusedSimpArgs false
set_option linter.unusedSectionVars false
namespace Go.Proofs.YtgpmfmbhemjkgaaGreatDoor
open Go.ChangeShapes Go.WideShapes Go.RowKit
theorem vk10 : ((Rows.shortestOrderRow.inPlace == Tryz.prog.inPlace (3 : FuncId))) = true:=by kernel_rfl
theorem vk11 : ((Rows.shortestOrderRow.unfollowed == Tryz.prog.unfollowed (3 : FuncId))) = true:=by kernel_rfl
end Go.Proofs.YtgpmfmbhemjkgaaGreatDoor
