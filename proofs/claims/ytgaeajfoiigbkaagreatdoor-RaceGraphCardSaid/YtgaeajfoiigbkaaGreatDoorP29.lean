/- Parts of the proofs of the statement, joined and made short: AK1_0 AK1_1 AK1_2. -/
import Derived.Test.YtgaeajfoiigbkaaGreatDoorP28
import Derived.KernelRfl
set_option linter.unusedVariables false
set_option linter.unusedSimpArgs false
set_option linter.unusedSectionVars false
namespace Go.Am
theorem k1_0 : Mm.e1_0.all (zld7 (Kf T0 200 40) 200 tfA) = true:=by kernel_rfl
end Go.Am

namespace Go.Am
theorem k1_1 : Mm.e1_1.all (zld7 (Kf T0 200 40) 200 tfA) = true:=by kernel_rfl
end Go.Am

namespace Go.Am
theorem k1_2 : Mm.e1_2.all (zld7 (Kf T0 200 40) 200 tfA) = true:=by kernel_rfl
end Go.Am
