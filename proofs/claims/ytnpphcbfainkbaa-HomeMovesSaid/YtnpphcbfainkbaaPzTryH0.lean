/- HomeMoves at its residues: part 0. -/
import Derived.Test.YtnpphcbfainkbaaPzTryK
namespace Go.Proofs.PxTry
open Go Go.Px
theorem home0 : (List.range 4).all (fun n => (List.range 16).all (fun b => chk 10 [.res .u8 b 16, .res .u8 n 4, .res .u8 0 26])) = true := by decide +kernel
theorem home4 : (List.range 4).all (fun n => (List.range 16).all (fun b => chk 10 [.res .u8 b 16, .res .u8 n 4, .res .u8 4 26])) = true := by decide +kernel
theorem home8 : (List.range 4).all (fun n => (List.range 16).all (fun b => chk 10 [.res .u8 b 16, .res .u8 n 4, .res .u8 8 26])) = true := by decide +kernel
theorem home12 : (List.range 4).all (fun n => (List.range 16).all (fun b => chk 10 [.res .u8 b 16, .res .u8 n 4, .res .u8 12 26])) = true := by decide +kernel
theorem home16 : (List.range 4).all (fun n => (List.range 16).all (fun b => chk 10 [.res .u8 b 16, .res .u8 n 4, .res .u8 16 26])) = true := by decide +kernel
theorem home20 : (List.range 4).all (fun n => (List.range 16).all (fun b => chk 10 [.res .u8 b 16, .res .u8 n 4, .res .u8 20 26])) = true := by decide +kernel
theorem home24 : (List.range 4).all (fun n => (List.range 16).all (fun b => chk 10 [.res .u8 b 16, .res .u8 n 4, .res .u8 24 26])) = true := by decide +kernel
end Go.Proofs.PxTry
