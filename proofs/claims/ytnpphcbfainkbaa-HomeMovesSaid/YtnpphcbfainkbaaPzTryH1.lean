/- HomeMoves at its residues: part 1. -/
import Derived.Test.YtnpphcbfainkbaaPzTryK
namespace Go.Proofs.PxTry
open Go Go.Px
theorem home1 : (List.range 4).all (fun n => (List.range 16).all (fun b => chk 10 [.res .u8 b 16, .res .u8 n 4, .res .u8 1 26])) = true := by decide +kernel
theorem home5 : (List.range 4).all (fun n => (List.range 16).all (fun b => chk 10 [.res .u8 b 16, .res .u8 n 4, .res .u8 5 26])) = true := by decide +kernel
theorem home9 : (List.range 4).all (fun n => (List.range 16).all (fun b => chk 10 [.res .u8 b 16, .res .u8 n 4, .res .u8 9 26])) = true := by decide +kernel
theorem home13 : (List.range 4).all (fun n => (List.range 16).all (fun b => chk 10 [.res .u8 b 16, .res .u8 n 4, .res .u8 13 26])) = true := by decide +kernel
theorem home17 : (List.range 4).all (fun n => (List.range 16).all (fun b => chk 10 [.res .u8 b 16, .res .u8 n 4, .res .u8 17 26])) = true := by decide +kernel
theorem home21 : (List.range 4).all (fun n => (List.range 16).all (fun b => chk 10 [.res .u8 b 16, .res .u8 n 4, .res .u8 21 26])) = true := by decide +kernel
theorem home25 : (List.range 4).all (fun n => (List.range 16).all (fun b => chk 10 [.res .u8 b 16, .res .u8 n 4, .res .u8 25 26])) = true := by decide +kernel
end Go.Proofs.PxTry
