/- The checks: part 2. -/
import Derived.Test.YtdkgahnccefagaaGreatDoorPzDtK
set_option linter.unusedVariables false
set_option linter.unusedSimpArgs false
set_option maxRecDepth 100000
namespace Go.Proofs.PxDt
open Go Go.Px
theorem c2_0 : chk 4 [.res .u8 2 5, .bool false] = true := by decide +kernel
theorem c0_0 : chk 4 [.res .u8 0 5, .bool false] = true := by decide +kernel
theorem c0_1 : chk 4 [.res .u8 0 5, .bool true] = true := by decide +kernel
theorem t75_0 : T75_0.all chk75 = true := by decide +kernel
theorem t150_0 : T150_0.all chk150 = true := by decide +kernel
theorem t77_0 : T77_0.all chk77 = true := by decide +kernel
theorem t268_0 : T268_0.all chk268 = true := by decide +kernel
theorem t95_0 : T95_0.all chk95 = true := by decide +kernel
end Go.Proofs.PxDt
