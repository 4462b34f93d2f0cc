import Derived.Test.YtpmlioigoiipaaaJTbl
import Derived.KernelRfl
namespace Go.Am
theorem lives_run : callT tblJ 8 [] [] = some (.dat (.bool true), []) := callT_kf (m := 4000) (n := 30) (by kernel_rfl)
end Go.Am
