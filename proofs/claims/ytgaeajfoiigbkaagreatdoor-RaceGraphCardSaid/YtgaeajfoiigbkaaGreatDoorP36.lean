/- Parts of the proofs of the statement, joined and made short: AK6_2. -/
import Derived.Test.YtgaeajfoiigbkaaGreatDoorP28
import Derived.KernelRfl
set_option linter.unusedVariables false
set_option linter.unusedSimpArgs false
set_option linter.unusedSectionVars false
namespace Go.Am
theorem k6_2 : Mm.e6_2.all (zld7 (Kf T5 200 40) 200 tfA) = true:=by kernel_rfl
end Go.Am
