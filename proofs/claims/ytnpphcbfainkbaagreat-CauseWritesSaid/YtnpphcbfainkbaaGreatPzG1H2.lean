/- CauseWrites at its residues: part 2. -/
import Derived.Test.YtnpphcbfainkbaaGreatPzG1K
set_option linter.unusedVariables false
set_option linter.unusedSimpArgs false
set_option maxRecDepth 100000
namespace Go.Proofs.PxG1
open Go Go.Px
theorem t9_2 : T9_2.all chk9 = true := by decide +kernel
theorem t9_6 : T9_6.all chk9 = true := by decide +kernel
theorem t9_10 : T9_10.all chk9 = true := by decide +kernel
theorem t9_14 : T9_14.all chk9 = true := by decide +kernel
theorem t7_3 : T7_3.all chk7 = true := by decide +kernel
theorem t10_1 : T10_1.all chk10 = true := by decide +kernel
theorem cw1 : (List.range 4).all (fun s => chk 4 [.res .u8 1 8, .res .u16 s 4]) = true := by decide +kernel
theorem cw5 : (List.range 64).all (fun s => chk 4 [.res .u8 5 8, .res .u16 s 64]) = true := by decide +kernel
theorem cw6_3 : (List.range 32).all (fun s => chk 4 [.res .u8 6 8, .res .u16 (s + 96) 128]) = true := by decide +kernel
theorem cw7_3 : (List.range 32).all (fun s => chk 4 [.res .u8 7 8, .res .u16 (s + 96) 256]) = true := by decide +kernel
theorem cw7_7 : (List.range 32).all (fun s => chk 4 [.res .u8 7 8, .res .u16 (s + 224) 256]) = true := by decide +kernel
end Go.Proofs.PxG1
