/- The checks: part 5. -/
import Derived.Test.YtdkgahnccefagaaGreatDoorPzDaK
set_option linter.unusedVariables false
set_option linter.unusedSimpArgs false
set_option maxRecDepth 100000
namespace Go.Proofs.PxDa
open Go Go.Px
theorem c1_1 : chk 3 [.res .u8 1 26, .bool true] = true := by decide +kernel
theorem c25_1 : chk 3 [.res .u8 25 26, .bool true] = true := by decide +kernel
theorem c16_1 : chk 3 [.res .u8 16 26, .bool true] = true := by decide +kernel
theorem t104_9 : T104_9.all chk104 = true := by decide +kernel
theorem t45_4 : T45_4.all chk45 = true := by decide +kernel
theorem c7_0 : chk 3 [.res .u8 7 26, .bool false] = true := by decide +kernel
theorem c23_0 : chk 3 [.res .u8 23 26, .bool false] = true := by decide +kernel
theorem c16_0 : chk 3 [.res .u8 16 26, .bool false] = true := by decide +kernel
theorem t45_9 : T45_9.all chk45 = true := by decide +kernel
theorem t104_21 : T104_21.all chk104 = true := by decide +kernel
theorem t104_5 : T104_5.all chk104 = true := by decide +kernel
theorem t138_0 : T138_0.all chk138 = true := by decide +kernel
end Go.Proofs.PxDa
