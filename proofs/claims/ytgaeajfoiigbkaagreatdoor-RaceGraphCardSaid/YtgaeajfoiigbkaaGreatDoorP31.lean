/- Parts of the proofs of the statement, joined and made short: AK4_0 AK4_1. -/
import Derived.Test.YtgaeajfoiigbkaaGreatDoorP28
import Derived.KernelRfl
set_option linter.unusedVariables false
set_option linter.unusedSimpArgs false
set_option linter.unusedSectionVars false
namespace Go.Am
theorem k4_0 : Mm.e4_0.all (zld7 (Kf T3 200 40) 200 tfA) = true:=by kernel_rfl
end Go.Am

namespace Go.Am
theorem k4_1 : Mm.e4_1.all (zld7 (Kf T3 200 40) 200 tfA) = true:=by kernel_rfl
end Go.Am
