/- HomeMoves at its residues: part 3. -/
import Derived.Test.YtnpphcbfainkbaaPzTryK
namespace Go.Proofs.PxTry
open Go Go.Px
theorem home3 : (List.range 4).all (fun n => (List.range 16).all (fun b => chk 10 [.res .u8 b 16, .res .u8 n 4, .res .u8 3 26])) = true := by decide +kernel
theorem home7 : (List.range 4).all (fun n => (List.range 16).all (fun b => chk 10 [.res .u8 b 16, .res .u8 n 4, .res .u8 7 26])) = true := by decide +kernel
theorem home11 : (List.range 4).all (fun n => (List.range 16).all (fun b => chk 10 [.res .u8 b 16, .res .u8 n 4, .res .u8 11 26])) = true := by decide +kernel
theorem home15 : (List.range 4).all (fun n => (List.range 16).all (fun b => chk 10 [.res .u8 b 16, .res .u8 n 4, .res .u8 15 26])) = true := by decide +kernel
theorem home19 : (List.range 4).all (fun n => (List.range 16).all (fun b => chk 10 [.res .u8 b 16, .res .u8 n 4, .res .u8 19 26])) = true := by decide +kernel
theorem home23 : (List.range 4).all (fun n => (List.range 16).all (fun b => chk 10 [.res .u8 b 16, .res .u8 n 4, .res .u8 23 26])) = true := by decide +kernel
end Go.Proofs.PxTry
