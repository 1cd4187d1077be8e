/- The checks: part 4. -/
import Derived.Test.YtdkgahnccefagaaGreatDoorPzDaK
set_option linter.unusedVariables false
set_option linter.unusedSimpArgs false
set_option maxRecDepth 100000
namespace Go.Proofs.PxDa
open Go Go.Px
theorem c23_1 : chk 3 [.res .u8 23 26, .bool true] = true := by decide +kernel
theorem c4_1 : chk 3 [.res .u8 4 26, .bool true] = true := by decide +kernel
theorem c18_1 : chk 3 [.res .u8 18 26, .bool true] = true := by decide +kernel
theorem c12_1 : chk 3 [.res .u8 12 26, .bool true] = true := by decide +kernel
theorem t45_11 : T45_11.all chk45 = true := by decide +kernel
theorem c2_0 : chk 3 [.res .u8 2 26, .bool false] = true := by decide +kernel
theorem c19_0 : chk 3 [.res .u8 19 26, .bool false] = true := by decide +kernel
theorem c11_0 : chk 3 [.res .u8 11 26, .bool false] = true := by decide +kernel
theorem t104_14 : T104_14.all chk104 = true := by decide +kernel
theorem t104_10 : T104_10.all chk104 = true := by decide +kernel
theorem t104_13 : T104_13.all chk104 = true := by decide +kernel
theorem t150_0 : T150_0.all chk150 = true := by decide +kernel
theorem t136_0 : T136_0.all chk136 = true := by decide +kernel
theorem t95_0 : T95_0.all chk95 = true := by decide +kernel
theorem t80_0 : T80_0.all chk80 = true := by decide +kernel
end Go.Proofs.PxDa
