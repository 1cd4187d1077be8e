/- ViewTurns at its residues: node 1. -/
import Derived.Test.YtnpphcbfainkbaaPyTryK
namespace Go.Proofs.PxTry
open Go Go.Px
theorem turns1_0 : (List.range 9).all (fun b => chk 4 [.int .u8 (.ofNat 0), .int .u8 (.ofNat b), .int .u8 (.ofNat 1)]) = true := by decide +kernel
theorem turns1_1 : (List.range 9).all (fun b => chk 4 [.int .u8 (.ofNat 1), .int .u8 (.ofNat b), .int .u8 (.ofNat 1)]) = true := by decide +kernel
theorem turns1_2 : (List.range 9).all (fun b => chk 4 [.int .u8 (.ofNat 2), .int .u8 (.ofNat b), .int .u8 (.ofNat 1)]) = true := by decide +kernel
theorem turns1_3 : (List.range 9).all (fun b => chk 4 [.int .u8 (.ofNat 3), .int .u8 (.ofNat b), .int .u8 (.ofNat 1)]) = true := by decide +kernel
theorem turns1_4 : (List.range 9).all (fun b => chk 4 [.int .u8 (.ofNat 4), .int .u8 (.ofNat b), .int .u8 (.ofNat 1)]) = true := by decide +kernel
theorem turns1_5 : (List.range 9).all (fun b => chk 4 [.int .u8 (.ofNat 5), .int .u8 (.ofNat b), .int .u8 (.ofNat 1)]) = true := by decide +kernel
theorem turns1_6 : (List.range 9).all (fun b => chk 4 [.int .u8 (.ofNat 6), .int .u8 (.ofNat b), .int .u8 (.ofNat 1)]) = true := by decide +kernel
theorem turns1_7 : (List.range 9).all (fun b => chk 4 [.int .u8 (.ofNat 7), .int .u8 (.ofNat b), .int .u8 (.ofNat 1)]) = true := by decide +kernel
theorem turns1_8 : (List.range 9).all (fun b => chk 4 [.int .u8 (.ofNat 8), .int .u8 (.ofNat b), .int .u8 (.ofNat 1)]) = true := by decide +kernel
theorem turns1 : ∀ a < 9, ∀ b < 9, chk 4 [.int .u8 (.ofNat a), .int .u8 (.ofNat b), .int .u8 (.ofNat 1)] = true := fun a ha b hb => by
  rcases a with _ | _ | _ | _ | _ | _ | _ | _ | _ | a
  · exact List.all_eq_true.1 turns1_0 b (List.mem_range.2 hb)
  · exact List.all_eq_true.1 turns1_1 b (List.mem_range.2 hb)
  · exact List.all_eq_true.1 turns1_2 b (List.mem_range.2 hb)
  · exact List.all_eq_true.1 turns1_3 b (List.mem_range.2 hb)
  · exact List.all_eq_true.1 turns1_4 b (List.mem_range.2 hb)
  · exact List.all_eq_true.1 turns1_5 b (List.mem_range.2 hb)
  · exact List.all_eq_true.1 turns1_6 b (List.mem_range.2 hb)
  · exact List.all_eq_true.1 turns1_7 b (List.mem_range.2 hb)
  · exact List.all_eq_true.1 turns1_8 b (List.mem_range.2 hb)
  · omega
end Go.Proofs.PxTry
