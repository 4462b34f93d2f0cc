/- Parts of the proofs of the statement, joined and made short: AK6_0 AK6_1 AK6_2 AK6_3. -/
import Derived.Test.YtgpmfmbhemjkgaaGreatDoorP17
import Derived.KernelRfl
set_option linter.unusedVariables false
set_option linter.unusedSimpArgs false
set_option linter.unusedSectionVars false
namespace Go.Am
theorem k6_0 : Mm.e6_0.all (zod7 (Kf T5 200 40) 200 tfX) = true:=by kernel_rfl
end Go.Am

namespace Go.Am
theorem k6_1 : Mm.e6_1.all (zod7 (Kf T5 200 40) 200 tfX) = true:=by kernel_rfl
end Go.Am

namespace Go.Am
theorem k6_2 : Mm.e6_2.all (zod7 (Kf T5 200 40) 200 tfX) = true:=by kernel_rfl
end Go.Am

namespace Go.Am
theorem k6_3 : Mm.e6_3.all (zod7 (Kf T5 200 40) 200 tfX) = true:=by kernel_rfl
end Go.Am
