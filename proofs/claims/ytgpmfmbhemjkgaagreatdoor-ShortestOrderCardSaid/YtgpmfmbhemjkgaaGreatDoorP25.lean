/- Parts of the proofs of the statement, joined and made short: YSnd. -/
import Derived.Test.YtgpmfmbhemjkgaaGreatDoorP18
import Derived.Test.YtgpmfmbhemjkgaaGreatDoorP19
import Derived.Test.YtgpmfmbhemjkgaaGreatDoorP20
import Derived.Test.YtgpmfmbhemjkgaaGreatDoorP21
import Derived.Test.YtgpmfmbhemjkgaaGreatDoorP22
import Derived.Test.YtgpmfmbhemjkgaaGreatDoorP23
import Derived.Test.YtgpmfmbhemjkgaaGreatDoorP24
set_option linter.unusedVariables false
set_option linter.unusedSimpArgs false
set_option linter.unusedSectionVars false
set_option maxRecDepth 10000
set_option maxHeartbeats 4000000
namespace Go.Am
open Go.Proofs
theorem T0_ok : TblOK Tryz.prog T0:=by
 refine ⟨fun f fn h => ?_,lawB_ok,tlX_ok,fun f fn c st h1 h2 h3 => by simp only [Glob.lps,h1,h2,h3],by kernel_rfl⟩
 simp only [T0,tfM] at h
 split at h
 ·cases h
 ·exact zxd7 f fn h
theorem e1_ok : ∀ e ∈ Mm.e1,EntOK Tryz.prog e:=by
 intro e he
 unfold Mm.e1 at he
 simp only [List.mem_append] at he
 rcases he with (h1_0 | h1_1) | h1_2
 ·exact zza7 T0_ok zxd7 tfX_y k1_0 e h1_0
 ·exact zza7 T0_ok zxd7 tfX_y k1_1 e h1_1
 ·exact zza7 T0_ok zxd7 tfX_y k1_2 e h1_2
theorem T1_ok : TblOK Tryz.prog T1:=T0_ok.memo e1_ok
theorem e2_ok : ∀ e ∈ Mm.e2,EntOK Tryz.prog e:=by
 intro e he
 unfold Mm.e2 at he
 exact zza7 T1_ok zxd7 tfX_y k2_0 e he
theorem T2_ok : TblOK Tryz.prog T2:=T1_ok.memo e2_ok
theorem e3_ok : ∀ e ∈ Mm.e3,EntOK Tryz.prog e:=by
 intro e he
 unfold Mm.e3 at he
 exact zza7 T2_ok zxd7 tfX_y k3_0 e he
theorem T3_ok : TblOK Tryz.prog T3:=T2_ok.memo e3_ok
theorem e4_ok : ∀ e ∈ Mm.e4,EntOK Tryz.prog e:=by
 intro e he
 unfold Mm.e4 at he
 simp only [List.mem_append] at he
 rcases he with ((((h4_0 | h4_1) | h4_2) | h4_3) | h4_4) | h4_5
 ·exact zza7 T3_ok zxd7 tfX_y k4_0 e h4_0
 ·exact zza7 T3_ok zxd7 tfX_y k4_1 e h4_1
 ·exact zza7 T3_ok zxd7 tfX_y k4_2 e h4_2
 ·exact zza7 T3_ok zxd7 tfX_y k4_3 e h4_3
 ·exact zza7 T3_ok zxd7 tfX_y k4_4 e h4_4
 ·exact zza7 T3_ok zxd7 tfX_y k4_5 e h4_5
theorem T4_ok : TblOK Tryz.prog T4:=T3_ok.memo e4_ok
theorem e5_ok : ∀ e ∈ Mm.e5,EntOK Tryz.prog e:=by
 intro e he
 unfold Mm.e5 at he
 exact zza7 T4_ok zxd7 tfX_y k5_0 e he
theorem T5_ok : TblOK Tryz.prog T5:=T4_ok.memo e5_ok
theorem e6_ok : ∀ e ∈ Mm.e6,EntOK Tryz.prog e:=by
 intro e he
 unfold Mm.e6 at he
 simp only [List.mem_append] at he
 rcases he with ((h6_0 | h6_1) | h6_2) | h6_3
 ·exact zza7 T5_ok zxd7 tfX_y k6_0 e h6_0
 ·exact zza7 T5_ok zxd7 tfX_y k6_1 e h6_1
 ·exact zza7 T5_ok zxd7 tfX_y k6_2 e h6_2
 ·exact zza7 T5_ok zxd7 tfX_y k6_3 e h6_3
theorem T6_ok : TblOK Tryz.prog T6:=T5_ok.memo e6_ok
theorem e7_ok : ∀ e ∈ Mm.e7,EntOK Tryz.prog e:=by
 intro e he
 unfold Mm.e7 at he
 exact zza7 T6_ok zxd7 tfX_y k7_0 e he
theorem T7_ok : TblOK Tryz.prog T7:=T6_ok.memo e7_ok
theorem e8_ok : ∀ e ∈ Mm.e8,EntOK Tryz.prog e:=by
 intro e he
 unfold Mm.e8 at he
 exact zza7 T7_ok zxd7 tfX_y k8_0 e he
theorem T8_ok : TblOK Tryz.prog T8:=T7_ok.memo e8_ok
theorem ex_ok : EntOK Tryz.prog ⟨5,[],.dat (.bool true)⟩:=e8_ok _ (by unfold Mm.e8 Mm.e8_0; simp)
end Go.Am
