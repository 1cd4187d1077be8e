/- The checks: part 6. -/
import Derived.Test.YtdkgahnccefagaaGreatDoorPzDaK
set_option linter.unusedVariables false
set_option linter.unusedSimpArgs false
set_option maxRecDepth 100000
namespace Go.Proofs.PxDa
open Go Go.Px
theorem c17_1 : chk 3 [.res .u8 17 26, .bool true] = true := by decide +kernel
theorem c21_1 : chk 3 [.res .u8 21 26, .bool true] = true := by decide +kernel
theorem c15_1 : chk 3 [.res .u8 15 26, .bool true] = true := by decide +kernel
theorem t104_8 : T104_8.all chk104 = true := by decide +kernel
theorem t45_6 : T45_6.all chk45 = true := by decide +kernel
theorem c8_0 : chk 3 [.res .u8 8 26, .bool false] = true := by decide +kernel
theorem c24_0 : chk 3 [.res .u8 24 26, .bool false] = true := by decide +kernel
theorem c17_0 : chk 3 [.res .u8 17 26, .bool false] = true := by decide +kernel
theorem c0_0 : chk 3 [.res .u8 0 26, .bool false] = true := by decide +kernel
theorem t104_1 : T104_1.all chk104 = true := by decide +kernel
theorem t104_6 : T104_6.all chk104 = true := by decide +kernel
theorem t104_12 : T104_12.all chk104 = true := by decide +kernel
end Go.Proofs.PxDa
