/- The checks: part 0. -/
import Derived.Test.YtdkgahnccefagaaGreatDoorPzDhK
set_option linter.unusedVariables false
set_option linter.unusedSimpArgs false
set_option maxRecDepth 100000
namespace Go.Proofs.PxDh
open Go Go.Px
theorem t6_0 : T6_0.all chk6 = true := by decide +kernel
theorem c9 : chk 5 [.res .u8 9 12] = true := by decide +kernel
theorem c7 : chk 5 [.res .u8 7 12] = true := by decide +kernel
theorem c4 : chk 5 [.res .u8 4 12] = true := by decide +kernel
theorem t147_0 : T147_0.all chk147 = true := by decide +kernel
theorem t75_0 : T75_0.all chk75 = true := by decide +kernel
theorem c0 : chk 5 [.res .u8 0 12] = true := by decide +kernel
theorem t138_0 : T138_0.all chk138 = true := by decide +kernel
theorem t48_0 : T48_0.all chk48 = true := by decide +kernel
theorem t136_0 : T136_0.all chk136 = true := by decide +kernel
theorem t137_0 : T137_0.all chk137 = true := by decide +kernel
theorem t183_0 : T183_0.all chk183 = true := by decide +kernel
theorem t95_0 : T95_0.all chk95 = true := by decide +kernel
theorem t82_0 : T82_0.all chk82 = true := by decide +kernel
end Go.Proofs.PxDh
