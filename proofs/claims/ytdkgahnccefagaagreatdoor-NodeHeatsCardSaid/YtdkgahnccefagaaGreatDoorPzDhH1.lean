/- The checks: part 1. -/
import Derived.Test.YtdkgahnccefagaaGreatDoorPzDhK
set_option linter.unusedVariables false
set_option linter.unusedSimpArgs false
set_option maxRecDepth 100000
namespace Go.Proofs.PxDh
open Go Go.Px
theorem c11 : chk 5 [.res .u8 11 12] = true := by decide +kernel
theorem c6 : chk 5 [.res .u8 6 12] = true := by decide +kernel
theorem c10 : chk 5 [.res .u8 10 12] = true := by decide +kernel
theorem c8 : chk 5 [.res .u8 8 12] = true := by decide +kernel
theorem c5 : chk 5 [.res .u8 5 12] = true := by decide +kernel
theorem c3 : chk 5 [.res .u8 3 12] = true := by decide +kernel
theorem c2 : chk 5 [.res .u8 2 12] = true := by decide +kernel
theorem c1 : chk 5 [.res .u8 1 12] = true := by decide +kernel
theorem t77_0 : T77_0.all chk77 = true := by decide +kernel
theorem t78_0 : T78_0.all chk78 = true := by decide +kernel
theorem t141_0 : T141_0.all chk141 = true := by decide +kernel
theorem t118_0 : T118_0.all chk118 = true := by decide +kernel
theorem t80_0 : T80_0.all chk80 = true := by decide +kernel
theorem t181_0 : T181_0.all chk181 = true := by decide +kernel
theorem t76_0 : T76_0.all chk76 = true := by decide +kernel
theorem t81_0 : T81_0.all chk81 = true := by decide +kernel
end Go.Proofs.PxDh
