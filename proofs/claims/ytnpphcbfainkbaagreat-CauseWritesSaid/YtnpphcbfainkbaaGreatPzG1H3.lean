/- CauseWrites at its residues: part 3. -/
import Derived.Test.YtnpphcbfainkbaaGreatPzG1K
set_option linter.unusedVariables false
set_option linter.unusedSimpArgs false
set_option maxRecDepth 100000
namespace Go.Proofs.PxG1
open Go Go.Px
theorem t9_3 : T9_3.all chk9 = true := by decide +kernel
theorem t9_7 : T9_7.all chk9 = true := by decide +kernel
theorem t9_11 : T9_11.all chk9 = true := by decide +kernel
theorem t7_0 : T7_0.all chk7 = true := by decide +kernel
theorem t7_4 : T7_4.all chk7 = true := by decide +kernel
theorem t10_2 : T10_2.all chk10 = true := by decide +kernel
theorem cw2 : (List.range 8).all (fun s => chk 4 [.res .u8 2 8, .res .u16 s 8]) = true := by decide +kernel
theorem cw6_0 : (List.range 32).all (fun s => chk 4 [.res .u8 6 8, .res .u16 (s + 0) 128]) = true := by decide +kernel
theorem cw7_0 : (List.range 32).all (fun s => chk 4 [.res .u8 7 8, .res .u16 (s + 0) 256]) = true := by decide +kernel
theorem cw7_4 : (List.range 32).all (fun s => chk 4 [.res .u8 7 8, .res .u16 (s + 128) 256]) = true := by decide +kernel
end Go.Proofs.PxG1
