/- The law at its residues: part 2. -/
import Derived.Test.YtefondfmngjekaaGreatPzC1K
set_option linter.unusedVariables false
set_option linter.unusedSimpArgs false
set_option maxRecDepth 100000
namespace Go.Proofs.PxC1
open Go Go.Px
theorem c1_0 : chk 3 [.res .u8 1 10, .bool false] = true := by decide +kernel
theorem c3_1 : chk 3 [.res .u8 3 10, .bool true] = true := by decide +kernel
theorem c6_0 : chk 3 [.res .u8 6 10, .bool false] = true := by decide +kernel
theorem c8_1 : chk 3 [.res .u8 8 10, .bool true] = true := by decide +kernel
end Go.Proofs.PxC1
