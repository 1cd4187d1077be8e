/- The checks: part 3. -/
import Derived.Test.YtdkgahnccefagaaGreatDoorPzDtK
set_option linter.unusedVariables false
set_option linter.unusedSimpArgs false
set_option maxRecDepth 100000
namespace Go.Proofs.PxDt
open Go Go.Px
theorem c1_0 : chk 4 [.res .u8 1 5, .bool false] = true := by decide +kernel
theorem c4_1 : chk 4 [.res .u8 4 5, .bool true] = true := by decide +kernel
theorem t104_0 : T104_0.all chk104 = true := by decide +kernel
theorem t138_0 : T138_0.all chk138 = true := by decide +kernel
theorem t141_0 : T141_0.all chk141 = true := by decide +kernel
theorem t104_1 : T104_1.all chk104 = true := by decide +kernel
theorem t133_0 : T133_0.all chk133 = true := by decide +kernel
theorem t136_0 : T136_0.all chk136 = true := by decide +kernel
end Go.Proofs.PxDt
