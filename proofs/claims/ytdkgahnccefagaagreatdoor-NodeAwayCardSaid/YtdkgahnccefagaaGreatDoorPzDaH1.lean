/- The checks: part 1. -/
import Derived.Test.YtdkgahnccefagaaGreatDoorPzDaK
set_option linter.unusedVariables false
set_option linter.unusedSimpArgs false
set_option maxRecDepth 100000
namespace Go.Proofs.PxDa
open Go Go.Px
theorem t6_0 : T6_0.all chk6 = true := by decide +kernel
theorem c5_1 : chk 3 [.res .u8 5 26, .bool true] = true := by decide +kernel
theorem c10_1 : chk 3 [.res .u8 10 26, .bool true] = true := by decide +kernel
theorem t104_0 : T104_0.all chk104 = true := by decide +kernel
theorem t45_3 : T45_3.all chk45 = true := by decide +kernel
theorem c6_0 : chk 3 [.res .u8 6 26, .bool false] = true := by decide +kernel
theorem c22_0 : chk 3 [.res .u8 22 26, .bool false] = true := by decide +kernel
theorem c15_0 : chk 3 [.res .u8 15 26, .bool false] = true := by decide +kernel
theorem t45_8 : T45_8.all chk45 = true := by decide +kernel
theorem t104_16 : T104_16.all chk104 = true := by decide +kernel
theorem t104_3 : T104_3.all chk104 = true := by decide +kernel
theorem t374_0 : T374_0.all chk374 = true := by decide +kernel
end Go.Proofs.PxDa
