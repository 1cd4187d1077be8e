/- HomeMoves at its residues: part 2. -/
import Derived.Test.YtnpphcbfainkbaaPzTryK
namespace Go.Proofs.PxTry
open Go Go.Px
theorem home2 : (List.range 4).all (fun n => (List.range 16).all (fun b => chk 10 [.res .u8 b 16, .res .u8 n 4, .res .u8 2 26])) = true := by decide +kernel
theorem home6 : (List.range 4).all (fun n => (List.range 16).all (fun b => chk 10 [.res .u8 b 16, .res .u8 n 4, .res .u8 6 26])) = true := by decide +kernel
theorem home10 : (List.range 4).all (fun n => (List.range 16).all (fun b => chk 10 [.res .u8 b 16, .res .u8 n 4, .res .u8 10 26])) = true := by decide +kernel
theorem home14 : (List.range 4).all (fun n => (List.range 16).all (fun b => chk 10 [.res .u8 b 16, .res .u8 n 4, .res .u8 14 26])) = true := by decide +kernel
theorem home18 : (List.range 4).all (fun n => (List.range 16).all (fun b => chk 10 [.res .u8 b 16, .res .u8 n 4, .res .u8 18 26])) = true := by decide +kernel
theorem home22 : (List.range 4).all (fun n => (List.range 16).all (fun b => chk 10 [.res .u8 b 16, .res .u8 n 4, .res .u8 22 26])) = true := by decide +kernel
end Go.Proofs.PxTry
