/- Parts of the proofs of the statement, joined and made short: XF1. -/
import Derived.ProofKit
import Derived.JoinedOf
import Derived.LaidMore
import Derived.OpenShut
import Derived.Stop.Joined
import Derived.Test.YtmoibjjpfemgjaaGreatDoorCards
import Derived.Test.YtmoibjjpfemgjaaGreatDoorTie
set_option linter.unusedVariables false
set_option linter.unusedSimpArgs false
set_option linter.unusedSectionVars false
namespace Go.Proofs.YtmoibjjpfemgjaaGreatDoor
open Go.ChangeShapes Go.WideShapes Go.RowKit
theorem vk1:(Rows.viewsMessagesRow.wf (OpenSpec.ofChange Rows.viewsMessagesSpec))=true:=by kernel_rfl
theorem vk2:(laidOutB Tryz.prog)=true:=by kernel_rfl
theorem vk3:(mapsRowed Tryz.prog)=true:=by kernel_rfl
theorem vk4:(Tryz.f7.params.all (Tryz.prog.readableRec ·))=true:=by kernel_rfl
theorem vk5:(namedTie Tryz.prog Rows.viewsMessagesRow.named Rows.viewsMessagesSpec.vars)=true:=by kernel_rfl
theorem vk6:((Rows.viewsMessagesRow.stops==[]))=true:=by kernel_rfl
theorem vk7:((Tryz.prog.stops==[]))=true:=by kernel_rfl
theorem vk8:((Rows.viewsMessagesRow.knobs==[]))=true:=by kernel_rfl
theorem vk9:((Tryz.prog.stopKnobs==[]))=true:=by kernel_rfl
end Go.Proofs.YtmoibjjpfemgjaaGreatDoor
