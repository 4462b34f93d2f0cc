/- Parts of the proofs of the statement, joined: VLives. -/
import Derived.Test.YtkogmedfilgneaaGreatDoorP9

namespace Go.Am
theorem lives_run : callT tblV 7 [] [] = some (.dat (.bool true), []) := callT_kf (m := 200) (n := 40) (by kernel_rfl)
end Go.Am
