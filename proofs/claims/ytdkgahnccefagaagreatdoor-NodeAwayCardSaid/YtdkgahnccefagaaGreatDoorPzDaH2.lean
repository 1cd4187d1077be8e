/- The checks: part 2. -/
import Derived.Test.YtdkgahnccefagaaGreatDoorPzDaK
set_option linter.unusedVariables false
set_option linter.unusedSimpArgs false
set_option maxRecDepth 100000
namespace Go.Proofs.PxDa
open Go Go.Px
theorem c24_1 : chk 3 [.res .u8 24 26, .bool true] = true := by decide +kernel
theorem c7_1 : chk 3 [.res .u8 7 26, .bool true] = true := by decide +kernel
theorem c2_1 : chk 3 [.res .u8 2 26, .bool true] = true := by decide +kernel
theorem c8_1 : chk 3 [.res .u8 8 26, .bool true] = true := by decide +kernel
theorem t45_2 : T45_2.all chk45 = true := by decide +kernel
theorem c4_0 : chk 3 [.res .u8 4 26, .bool false] = true := by decide +kernel
theorem c20_0 : chk 3 [.res .u8 20 26, .bool false] = true := by decide +kernel
theorem c13_0 : chk 3 [.res .u8 13 26, .bool false] = true := by decide +kernel
theorem t45_12 : T45_12.all chk45 = true := by decide +kernel
theorem t104_18 : T104_18.all chk104 = true := by decide +kernel
theorem t104_15 : T104_15.all chk104 = true := by decide +kernel
theorem t268_0 : T268_0.all chk268 = true := by decide +kernel
theorem t141_0 : T141_0.all chk141 = true := by decide +kernel
theorem t137_0 : T137_0.all chk137 = true := by decide +kernel
end Go.Proofs.PxDa
