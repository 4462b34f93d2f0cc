/- Parts of the proofs of the statement, joined and made short: XF6. -/
import Derived.ProofKit
import Derived.JoinedOf
import Derived.LaidMore
import Derived.OpenShut
import Derived.Stop.Joined
import Derived.Test.YtmoibjjpfemgjaaGreatDoorCards
import Derived.Test.YtmoibjjpfemgjaaGreatDoorTie
set_option linter.unusedVariables false
set_option linter.unusedSimpArgs false
set_option linter.unusedSectionVars false
namespace Go.Proofs.YtmoibjjpfemgjaaGreatDoor
open Go.ChangeShapes Go.WideShapes Go.RowKit
theorem va6:Tryz.prog.funcNamed "modelcheck/modelchecklaw38.ViewsMessages" = some 7:=by kernel_rfl
theorem va7:Tryz.f7.isInstance Tryz.prog Rows.viewsMessagesRow.origin Rows.viewsMessagesRow.targs:=of_decide_eq_true (by kernel_rfl)
theorem va8:Tryz.f7.isWrapper Tryz.prog Rows.viewsMessagesRow.wrapper Rows.viewsMessagesRow.mainSum:=by unfold Func.isWrapper;first|(rw[if_pos (by decide +kernel)];kernel_rfl)|(rw[if_neg (by decide +kernel)];exact⟨rfl,rfl⟩)
theorem vc1:Rows.viewsMessagesRow.wfByText (OpenSpec.ofChange Rows.viewsMessagesSpec)=true:=by kernel_rfl
theorem vc2:Tryz.prog.mainIs=some (true,"639749a6064ee359833ff3b777cd1101689e0e46572cd7e4cf3b5b058dcaaba2".toList):=by kernel_rfl
theorem vc4:Tryz.prog.wantsStandIn 30=false:=by kernel_rfl
end Go.Proofs.YtmoibjjpfemgjaaGreatDoor
