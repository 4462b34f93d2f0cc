/- Parts of the proofs of the statement, joined and made short: AK5_0. -/
import Derived.Test.YtmoibjjpfemgjaaGreatDoorP37
import Derived.KernelRfl
set_option linter.unusedVariables false
set_option linter.unusedSimpArgs false
set_option linter.unusedSectionVars false
namespace Go.Am
theorem k5_0:Mm.e5_0.all (checkE (Kf T4 200 40) 200 tfX)=true:=by kernel_rfl
end Go.Am
