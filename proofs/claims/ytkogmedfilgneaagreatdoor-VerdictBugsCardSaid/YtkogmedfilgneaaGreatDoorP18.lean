/- Parts of the proofs of the statement, joined: VF6. -/
import Derived.ProofKit
import Derived.JoinedOf
import Derived.LaidMore
import Derived.OpenShut
import Derived.Stop.Joined
import Derived.Test.YtkogmedfilgneaaGreatDoorCards
import Derived.Test.YtkogmedfilgneaaGreatDoorTie

namespace Go.Proofs.YtkogmedfilgneaaGreatDoor
open Go.ChangeShapes Go.WideShapes Go.RowKit
theorem va6 : Tryz.prog.funcNamed "modelcheck/modelchecklaw44.VerdictBugs" = some 3 := by kernel_rfl
theorem va7 : Tryz.f3.isInstance Tryz.prog Rows.verdictBugsRow.origin Rows.verdictBugsRow.targs := of_decide_eq_true (by kernel_rfl)
theorem va8 : Tryz.f3.isWrapper Tryz.prog Rows.verdictBugsRow.wrapper Rows.verdictBugsRow.mainSum := by unfold Func.isWrapper; first | (rw [if_pos (by decide +kernel)]; kernel_rfl) | (rw [if_neg (by decide +kernel)]; exact ⟨rfl, rfl⟩)
theorem vc1 : Rows.verdictBugsRow.wfByText (OpenSpec.ofChange Rows.verdictBugsSpec) = true := by kernel_rfl
theorem vc2 : Tryz.prog.mainIs = some (true, "26df014c139842711850b35034f5437e81c774227359981e26bdce19debfa390".toList) := by kernel_rfl
theorem vc4 : Tryz.prog.wantsStandIn 25 = false := by kernel_rfl
theorem vc5 : Tryz.prog.wantsStandIn 26 = false := by kernel_rfl
end Go.Proofs.YtkogmedfilgneaaGreatDoor
