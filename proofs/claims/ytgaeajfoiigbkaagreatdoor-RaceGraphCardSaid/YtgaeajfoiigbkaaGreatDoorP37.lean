/- Parts of the proofs of the statement, joined and made short: AK7_0. -/
import Derived.Test.YtgaeajfoiigbkaaGreatDoorP28
import Derived.KernelRfl
set_option linter.unusedVariables false
set_option linter.unusedSimpArgs false
set_option linter.unusedSectionVars false
namespace Go.Am
theorem k7_0 : Mm.e7_0.all (zld7 (Kf T6 200 40) 200 tfA) = true:=by kernel_rfl
end Go.Am
