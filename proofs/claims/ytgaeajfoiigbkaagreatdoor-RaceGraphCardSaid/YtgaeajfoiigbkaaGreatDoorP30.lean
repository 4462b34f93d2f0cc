/- Parts of the proofs of the statement, joined and made short: AK2_0 AK2_1 AK2_2 AK3_0. -/
import Derived.Test.YtgaeajfoiigbkaaGreatDoorP28
import Derived.KernelRfl
set_option linter.unusedVariables false
set_option linter.unusedSimpArgs false
set_option linter.unusedSectionVars false
namespace Go.Am
theorem k2_0 : Mm.e2_0.all (zld7 (Kf T1 200 40) 200 tfA) = true:=by kernel_rfl
end Go.Am

namespace Go.Am
theorem k2_1 : Mm.e2_1.all (zld7 (Kf T1 200 40) 200 tfA) = true:=by kernel_rfl
end Go.Am

namespace Go.Am
theorem k2_2 : Mm.e2_2.all (zld7 (Kf T1 200 40) 200 tfA) = true:=by kernel_rfl
end Go.Am

namespace Go.Am
theorem k3_0 : Mm.e3_0.all (zld7 (Kf T2 200 40) 200 tfA) = true:=by kernel_rfl
end Go.Am
