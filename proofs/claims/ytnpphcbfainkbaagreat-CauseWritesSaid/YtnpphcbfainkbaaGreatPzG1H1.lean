/- CauseWrites at its residues: part 1. -/
import Derived.Test.YtnpphcbfainkbaaGreatPzG1K
set_option linter.unusedVariables false
set_option linter.unusedSimpArgs false
set_option maxRecDepth 100000
namespace Go.Proofs.PxG1
open Go Go.Px
theorem t9_1 : T9_1.all chk9 = true := by decide +kernel
theorem t9_5 : T9_5.all chk9 = true := by decide +kernel
theorem t9_9 : T9_9.all chk9 = true := by decide +kernel
theorem t9_13 : T9_13.all chk9 = true := by decide +kernel
theorem t7_2 : T7_2.all chk7 = true := by decide +kernel
theorem t10_0 : T10_0.all chk10 = true := by decide +kernel
theorem cw0 : (List.range 2).all (fun s => chk 4 [.res .u8 0 8, .res .u16 s 2]) = true := by decide +kernel
theorem cw4 : (List.range 32).all (fun s => chk 4 [.res .u8 4 8, .res .u16 s 32]) = true := by decide +kernel
theorem cw6_2 : (List.range 32).all (fun s => chk 4 [.res .u8 6 8, .res .u16 (s + 64) 128]) = true := by decide +kernel
theorem cw7_2 : (List.range 32).all (fun s => chk 4 [.res .u8 7 8, .res .u16 (s + 64) 256]) = true := by decide +kernel
theorem cw7_6 : (List.range 32).all (fun s => chk 4 [.res .u8 7 8, .res .u16 (s + 192) 256]) = true := by decide +kernel
end Go.Proofs.PxG1
