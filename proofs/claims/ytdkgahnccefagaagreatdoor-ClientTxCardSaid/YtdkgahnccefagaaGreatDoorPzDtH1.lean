/- The checks: part 1. -/
import Derived.Test.YtdkgahnccefagaaGreatDoorPzDtK
set_option linter.unusedVariables false
set_option linter.unusedSimpArgs false
set_option maxRecDepth 100000
namespace Go.Proofs.PxDt
open Go Go.Px
theorem c3_0 : chk 4 [.res .u8 3 5, .bool false] = true := by decide +kernel
theorem c3_1 : chk 4 [.res .u8 3 5, .bool true] = true := by decide +kernel
theorem c2_1 : chk 4 [.res .u8 2 5, .bool true] = true := by decide +kernel
theorem t374_0 : T374_0.all chk374 = true := by decide +kernel
theorem t139_0 : T139_0.all chk139 = true := by decide +kernel
end Go.Proofs.PxDt
