/- The checks: part 0. -/
import Derived.Test.YtdkgahnccefagaaGreatDoorPzDtK
set_option linter.unusedVariables false
set_option linter.unusedSimpArgs false
set_option maxRecDepth 100000
namespace Go.Proofs.PxDt
open Go Go.Px
theorem c4_0 : chk 4 [.res .u8 4 5, .bool false] = true := by decide +kernel
theorem t15_0 : T15_0.all chk15 = true := by decide +kernel
theorem c1_1 : chk 4 [.res .u8 1 5, .bool true] = true := by decide +kernel
end Go.Proofs.PxDt
