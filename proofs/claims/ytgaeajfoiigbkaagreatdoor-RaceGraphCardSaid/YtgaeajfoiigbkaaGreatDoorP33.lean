/- Parts of the proofs of the statement, joined and made short: AK5_0 AK5_1 AK5_2. -/
import Derived.Test.YtgaeajfoiigbkaaGreatDoorP28
import Derived.KernelRfl
set_option linter.unusedVariables false
set_option linter.unusedSimpArgs false
set_option linter.unusedSectionVars false
namespace Go.Am
theorem k5_0 : Mm.e5_0.all (zld7 (Kf T4 200 40) 200 tfA) = true:=by kernel_rfl
end Go.Am

namespace Go.Am
theorem k5_1 : Mm.e5_1.all (zld7 (Kf T4 200 40) 200 tfA) = true:=by kernel_rfl
end Go.Am

namespace Go.Am
theorem k5_2 : Mm.e5_2.all (zld7 (Kf T4 200 40) 200 tfA) = true:=by kernel_rfl
end Go.Am
