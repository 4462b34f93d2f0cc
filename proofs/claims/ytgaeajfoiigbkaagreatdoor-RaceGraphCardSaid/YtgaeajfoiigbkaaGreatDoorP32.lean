/- Parts of the proofs of the statement, joined and made short: AK4_2 AK4_3. -/
import Derived.Test.YtgaeajfoiigbkaaGreatDoorP28
import Derived.KernelRfl
set_option linter.unusedVariables false
set_option linter.unusedSimpArgs false
set_option linter.unusedSectionVars false
namespace Go.Am
theorem k4_2 : Mm.e4_2.all (zld7 (Kf T3 200 40) 200 tfA) = true:=by kernel_rfl
end Go.Am

namespace Go.Am
theorem k4_3 : Mm.e4_3.all (zld7 (Kf T3 200 40) 200 tfA) = true:=by kernel_rfl
end Go.Am
