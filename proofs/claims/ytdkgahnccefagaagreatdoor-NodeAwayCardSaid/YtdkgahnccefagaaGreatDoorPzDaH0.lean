/- The checks: part 0. -/
import Derived.Test.YtdkgahnccefagaaGreatDoorPzDaK
set_option linter.unusedVariables false
set_option linter.unusedSimpArgs false
set_option maxRecDepth 100000
namespace Go.Proofs.PxDa
open Go Go.Px
theorem c0_1 : chk 3 [.res .u8 0 26, .bool true] = true := by decide +kernel
theorem c3_1 : chk 3 [.res .u8 3 26, .bool true] = true := by decide +kernel
theorem c9_1 : chk 3 [.res .u8 9 26, .bool true] = true := by decide +kernel
theorem t45_0 : T45_0.all chk45 = true := by decide +kernel
theorem t45_1 : T45_1.all chk45 = true := by decide +kernel
theorem c5_0 : chk 3 [.res .u8 5 26, .bool false] = true := by decide +kernel
theorem c21_0 : chk 3 [.res .u8 21 26, .bool false] = true := by decide +kernel
theorem c14_0 : chk 3 [.res .u8 14 26, .bool false] = true := by decide +kernel
theorem t45_7 : T45_7.all chk45 = true := by decide +kernel
theorem t104_4 : T104_4.all chk104 = true := by decide +kernel
theorem t104_2 : T104_2.all chk104 = true := by decide +kernel
theorem t222_0 : T222_0.all chk222 = true := by decide +kernel
end Go.Proofs.PxDa
