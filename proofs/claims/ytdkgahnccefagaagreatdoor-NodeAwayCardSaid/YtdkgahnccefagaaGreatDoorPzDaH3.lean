/- The checks: part 3. -/
import Derived.Test.YtdkgahnccefagaaGreatDoorPzDaK
set_option linter.unusedVariables false
set_option linter.unusedSimpArgs false
set_option maxRecDepth 100000
namespace Go.Proofs.PxDa
open Go Go.Px
theorem c19_1 : chk 3 [.res .u8 19 26, .bool true] = true := by decide +kernel
theorem c6_1 : chk 3 [.res .u8 6 26, .bool true] = true := by decide +kernel
theorem c20_1 : chk 3 [.res .u8 20 26, .bool true] = true := by decide +kernel
theorem c22_1 : chk 3 [.res .u8 22 26, .bool true] = true := by decide +kernel
theorem t45_10 : T45_10.all chk45 = true := by decide +kernel
theorem c3_0 : chk 3 [.res .u8 3 26, .bool false] = true := by decide +kernel
theorem c1_0 : chk 3 [.res .u8 1 26, .bool false] = true := by decide +kernel
theorem c12_0 : chk 3 [.res .u8 12 26, .bool false] = true := by decide +kernel
theorem t104_20 : T104_20.all chk104 = true := by decide +kernel
theorem t104_22 : T104_22.all chk104 = true := by decide +kernel
theorem t104_17 : T104_17.all chk104 = true := by decide +kernel
theorem t75_0 : T75_0.all chk75 = true := by decide +kernel
theorem t166_0 : T166_0.all chk166 = true := by decide +kernel
end Go.Proofs.PxDa
