/- Parts of the proofs of the statement, joined and made short: AK4_4 AK4_5 AK5_0. -/
import Derived.Test.YtgpmfmbhemjkgaaGreatDoorP17
import Derived.KernelRfl
set_option linter.unusedVariables false
set_option linter.unusedSimpArgs false
set_option linter.unusedSectionVars false
namespace Go.Am
theorem k4_4 : Mm.e4_4.all (zod7 (Kf T3 200 40) 200 tfX) = true:=by kernel_rfl
end Go.Am

namespace Go.Am
theorem k4_5 : Mm.e4_5.all (zod7 (Kf T3 200 40) 200 tfX) = true:=by kernel_rfl
end Go.Am

namespace Go.Am
theorem k5_0 : Mm.e5_0.all (zod7 (Kf T4 200 40) 200 tfX) = true:=by kernel_rfl
end Go.Am
