/- The checks: part 7. -/
import Derived.Test.YtdkgahnccefagaaGreatDoorPzDaK
set_option linter.unusedVariables false
set_option linter.unusedSimpArgs false
set_option maxRecDepth 100000
namespace Go.Proofs.PxDa
open Go Go.Px
theorem c14_1 : chk 3 [.res .u8 14 26, .bool true] = true := by decide +kernel
theorem c13_1 : chk 3 [.res .u8 13 26, .bool true] = true := by decide +kernel
theorem c11_1 : chk 3 [.res .u8 11 26, .bool true] = true := by decide +kernel
theorem t104_7 : T104_7.all chk104 = true := by decide +kernel
theorem t45_5 : T45_5.all chk45 = true := by decide +kernel
theorem c9_0 : chk 3 [.res .u8 9 26, .bool false] = true := by decide +kernel
theorem c25_0 : chk 3 [.res .u8 25 26, .bool false] = true := by decide +kernel
theorem c18_0 : chk 3 [.res .u8 18 26, .bool false] = true := by decide +kernel
theorem c10_0 : chk 3 [.res .u8 10 26, .bool false] = true := by decide +kernel
theorem t104_11 : T104_11.all chk104 = true := by decide +kernel
theorem t78_0 : T78_0.all chk78 = true := by decide +kernel
theorem t104_19 : T104_19.all chk104 = true := by decide +kernel
end Go.Proofs.PxDa
