/- CauseWrites at its residues: part 0. -/
import Derived.Test.YtnpphcbfainkbaaGreatPzG1K
set_option linter.unusedVariables false
set_option linter.unusedSimpArgs false
set_option maxRecDepth 100000
namespace Go.Proofs.PxG1
open Go Go.Px
theorem t9_0 : T9_0.all chk9 = true := by decide +kernel
theorem t9_4 : T9_4.all chk9 = true := by decide +kernel
theorem t9_8 : T9_8.all chk9 = true := by decide +kernel
theorem t9_12 : T9_12.all chk9 = true := by decide +kernel
theorem t7_1 : T7_1.all chk7 = true := by decide +kernel
theorem t7_5 : T7_5.all chk7 = true := by decide +kernel
theorem t10_3 : T10_3.all chk10 = true := by decide +kernel
theorem cw3 : (List.range 16).all (fun s => chk 4 [.res .u8 3 8, .res .u16 s 16]) = true := by decide +kernel
theorem cw6_1 : (List.range 32).all (fun s => chk 4 [.res .u8 6 8, .res .u16 (s + 32) 128]) = true := by decide +kernel
theorem cw7_1 : (List.range 32).all (fun s => chk 4 [.res .u8 7 8, .res .u16 (s + 32) 256]) = true := by decide +kernel
theorem cw7_5 : (List.range 32).all (fun s => chk 4 [.res .u8 7 8, .res .u16 (s + 160) 256]) = true := by decide +kernel
end Go.Proofs.PxG1
