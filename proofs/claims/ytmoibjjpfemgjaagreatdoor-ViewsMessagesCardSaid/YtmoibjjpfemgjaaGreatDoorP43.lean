/- Parts of the proofs of the statement, joined and made short: YSnd. -/
import Derived.Test.YtmoibjjpfemgjaaGreatDoorP38
import Derived.Test.YtmoibjjpfemgjaaGreatDoorP39
import Derived.Test.YtmoibjjpfemgjaaGreatDoorP40
import Derived.Test.YtmoibjjpfemgjaaGreatDoorP41
import Derived.Test.YtmoibjjpfemgjaaGreatDoorP42
set_option linter.unusedVariables false
set_option linter.unusedSimpArgs false
set_option linter.unusedSectionVars false
set_option maxRecDepth 10000
set_option maxHeartbeats 4000000
namespace Go.Am
open Go.Proofs
theorem T0_ok:TblOK Tryz.prog T0:=by
 refine⟨fun f fn h=>?_,insV_ok,tlX_ok,fun f fn c st h1 h2 h3=>by simp only[Glob.lps,h1,h2,h3],by kernel_rfl⟩;simp only[T0,tfM]at h;split at h
 ·cases h
 ·exact tfX_ok f fn h
theorem e1_ok:∀e∈Mm.e1,EntOK Tryz.prog e:=by
 intro e he;unfold Mm.e1 at he;exact checks_ok T0_ok tfX_ok tfX_y k1_0 e he
theorem T1_ok:TblOK Tryz.prog T1:=T0_ok.memo e1_ok
theorem e2_ok:∀e∈Mm.e2,EntOK Tryz.prog e:=by
 intro e he;unfold Mm.e2 at he;exact checks_ok T1_ok tfX_ok tfX_y k2_0 e he
theorem T2_ok:TblOK Tryz.prog T2:=T1_ok.memo e2_ok
theorem e3_ok:∀e∈Mm.e3,EntOK Tryz.prog e:=by
 intro e he;unfold Mm.e3 at he;exact checks_ok T2_ok tfX_ok tfX_y k3_0 e he
theorem T3_ok:TblOK Tryz.prog T3:=T2_ok.memo e3_ok
theorem e4_ok:∀e∈Mm.e4,EntOK Tryz.prog e:=by
 intro e he;unfold Mm.e4 at he;exact checks_ok T3_ok tfX_ok tfX_y k4_0 e he
theorem T4_ok:TblOK Tryz.prog T4:=T3_ok.memo e4_ok
theorem e5_ok:∀e∈Mm.e5,EntOK Tryz.prog e:=by
 intro e he;unfold Mm.e5 at he;exact checks_ok T4_ok tfX_ok tfX_y k5_0 e he
theorem T5_ok:TblOK Tryz.prog T5:=T4_ok.memo e5_ok
theorem ex_ok:EntOK Tryz.prog ⟨11,[],.dat (.bool true)⟩:=e5_ok _ (by unfold Mm.e5 Mm.e5_0;simp)
end Go.Am
