/- Parts of the proofs of the statement, joined and made short: XF6. -/
import Derived.ProofKit
import Derived.JoinedOf
import Derived.LaidMore
import Derived.OpenShut
import Derived.Stop.Joined
import Derived.Test.YtgaeajfoiigbkaaGreatDoorCards
import Derived.Test.YtgaeajfoiigbkaaGreatDoorTie
set_option linter.unusedVariables false
set_option linter.unusedSimpArgs false
set_option linter.unusedSectionVars false
namespace Go.Proofs.YtgaeajfoiigbkaaGreatDoor
open Go.ChangeShapes Go.WideShapes Go.RowKit
theorem va6 : Tryz.prog.funcNamed "modelcheck/modelchecklaw43.RaceGraph" = some 4:=by kernel_rfl
theorem va7 : Tryz.f4.isInstance Tryz.prog Rows.raceGraphRow.origin Rows.raceGraphRow.targs:=of_decide_eq_true (by kernel_rfl)
theorem va8 : Tryz.f4.isWrapper Tryz.prog Rows.raceGraphRow.wrapper Rows.raceGraphRow.mainSum:=by unfold Func.isWrapper; first | (rw [if_pos (by decide +kernel)]; kernel_rfl) | (rw [if_neg (by decide +kernel)]; exact ⟨rfl,rfl⟩)
theorem vc1 : Rows.raceGraphRow.wfByText (OpenSpec.ofChange Rows.raceGraphSpec) = true:=by kernel_rfl
theorem vc2 : Tryz.prog.mainIs = some (true,"26df014c139842711850b35034f5437e81c774227359981e26bdce19debfa390".toList):=by kernel_rfl
theorem vc4 : Tryz.prog.wantsStandIn 37 = false:=by kernel_rfl
end Go.Proofs.YtgaeajfoiigbkaaGreatDoor
