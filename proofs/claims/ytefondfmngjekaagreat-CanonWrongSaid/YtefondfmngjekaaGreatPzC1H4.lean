/- The law at its residues: part 4. -/
import Derived.Test.YtefondfmngjekaaGreatPzC1K
set_option linter.unusedVariables false
set_option linter.unusedSimpArgs false
set_option maxRecDepth 100000
namespace Go.Proofs.PxC1
open Go Go.Px
theorem c2_0 : chk 3 [.res .u8 2 10, .bool false] = true := by decide +kernel
theorem c4_1 : chk 3 [.res .u8 4 10, .bool true] = true := by decide +kernel
theorem c7_0 : chk 3 [.res .u8 7 10, .bool false] = true := by decide +kernel
theorem c9_1 : chk 3 [.res .u8 9 10, .bool true] = true := by decide +kernel
end Go.Proofs.PxC1
