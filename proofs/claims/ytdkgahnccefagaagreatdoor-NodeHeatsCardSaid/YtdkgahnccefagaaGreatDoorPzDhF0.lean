/- The functions of the seat, in one breath: part 0. -/
import Derived.Test.YtdkgahnccefagaaGreatDoorPb3
import Derived.Test.YtdkgahnccefagaaGreatDoorProg
import Derived.Test.YtdkgahnccefagaaGreatDoorPxEnvDh
import Derived.KernelRfl
set_option maxRecDepth 100000
set_option linter.unusedVariables false
set_option linter.unusedSimpArgs false
namespace Go.Proofs.PxDh
open Go Go.Px Go.Proofs
def B0 : List Nat := [0, 0, 3, 7]
def B1 : List Nat := [0, 1, 3, 7, 15, 31, 63, 127, 255, 511, 1023, 2047, 4095, 8191, 16383, 32767, 65535, 131071, 262143, 524287, 1048575, 2097151, 4194303, 8388607, 16777215, 33554431, 67108863, 134217727, 268435455, 536870911, 1073741823, 2147483647, 4294967295, 8589934591, 17179869183, 34359738367, 68719476735, 137438953471, 274877906943, 549755813887, 1099511627775, 2199023255551, 4398046511103, 8796093022207, 17592186044415, 35184372088831, 70368744177663, 140737488355327, 281474976710655, 562949953421311, 1125899906842623, 2251799813685247, 4503599627370495, 9007199254740991, 18014398509481983, 36028797018963967, 72057594037927935, 144115188075855871, 288230376151711743, 576460752303423487, 1152921504606846975, 576460752303423487, 4611686018427387903, 9223372036854775807, 18446744073709551615]
def B2 : List Nat := [0, 0, 2, 0, 14, 0, 30, 0, 255, 511, 1023]
def B3 : List Nat := [0, 1, 0, 4, 12, 28, 63, 127, 255, 511, 1023, 2047, 255, 8191, 16383, 32767]
def B4 : List Nat := [0, 0, 0, 0, 12, 28, 63]
def B5 : List Nat := [0, 0, 0, 4, 12, 31]
def B6 : List Nat := [0, 0, 0, 4, 14, 31]
def B7 : List Nat := [0, 1, 3, 7, 15, 31, 0, 64, 192, 448, 960, 2047, 4095, 8191]
def B8 : List Nat := [0, 1, 0, 7, 15, 0, 32, 0, 224, 480, 1023]
def B9 : List Nat := [0, 1, 0, 4, 0, 16, 3, 67, 207, 463, 1023, 2047]
def B10 : List Nat := [0, 0, 2, 6, 14, 0, 32, 127, 255]
def B11 : List Nat := [0, 1, 3, 7, 0, 16, 63]
def B12 : List Nat := [0, 0, 0, 4, 12, 28, 0, 64, 252, 508, 1023]
def B13 : List Nat := [0, 0, 2, 6, 14, 0, 62, 127]
def B14 : List Nat := [0, 1, 0, 4, 15, 0, 0, 64, 192, 480, 1023, 2047]
def B15 : List Nat := [0, 0, 2, 6, 14, 0, 32, 126, 255, 511, 1023]
def B16 : List Nat := [0, 1, 3, 7, 0, 16, 63, 127]
def B17 : List Nat := [0, 0, 2, 6, 0, 16, 48, 112, 0, 256, 1022, 2047]
def B18 : List Nat := [0, 0, 2, 6, 14, 30, 63, 127, 255]
def B19 : List Nat := [0, 1, 3, 7, 0, 31, 63]
def B20 : List Nat := [0, 0, 0, 4, 0, 16, 62, 126, 255, 511]
def B21 : List Nat := [0, 1, 3, 7, 15, 31, 63, 127, 255, 511, 1023, 2047, 4095, 8191, 16383, 32767, 65535, 131071, 262143, 131071, 655359, 2097151, 4194303, 131071, 16777215, 33554431, 67108863, 134217727]
def B22 : List Nat := [0, 1, 3, 7, 0, 16, 63, 0, 255]
def B23 : List Nat := [0, 1, 3, 7, 0, 16, 0, 64, 255, 511, 1023, 1023, 2047, 8191]
def B24 : List Nat := [0, 1, 3, 7, 0, 16, 63, 127, 255, 255, 0, 1535, 4095]
def B25 : List Nat := [0, 1, 3, 7, 0, 16, 0, 127]
def B26 : List Nat := [0, 0, 2, 6, 14, 31, 63]
def B27 : List Nat := [0, 0, 0, 0, 8, 24, 56, 125, 253, 509, 1023, 2047, 4095]
def B28 : List Nat := [0, 0, 0, 0, 0, 24, 56, 0, 252, 511, 1023]
def B29 : List Nat := [0, 1, 0, 4, 15, 0, 32, 0, 128, 511, 1023, 2047, 4095]
def B30 : List Nat := [0, 1, 0, 0, 0, 27, 63, 127]
def B31 : List Nat := [0, 0, 2, 6, 14, 0, 62, 127, 255, 511]
def B32 : List Nat := [0, 1, 3, 0, 8, 0, 32, 127, 255, 511]
def B33 : List Nat := [0, 0, 2, 6, 14, 0, 32, 96, 224, 0, 512, 0, 2048, 7680, 16352, 32766, 65535, 131071, 262143]
def B34 : List Nat := [0, 0, 0, 4, 12, 28, 0, 124, 0, 253, 765, 1789, 4095, 8191, 16383]
def B35 : List Nat := [0, 0, 3, 0, 0, 24, 7, 127]
def B36 : List Nat := [0, 1, 3, 7, 0, 0, 63]
def B37 : List Nat := [0, 1, 3, 0, 8, 0, 59, 127, 255]
def B38 : List Nat := [0, 1, 3, 7, 15, 31, 63, 127, 255, 511, 1023, 2047, 4095, 4095, 12287, 28671, 61439, 126975, 258047, 520191, 1044479, 2097151, 4194303, 8388607]
def B39 : List Nat := [0, 1, 0, 4, 15, 31]
def B40 : List Nat := [0, 1, 0, 7, 15]
def B41 : List Nat := [0, 1, 3, 7, 0, 0, 63, 127, 255, 255, 511, 2047]
def B42 : List Nat := [0, 1, 3, 7, 0, 0, 0, 112, 255, 511]
def B43 : List Nat := [0, 0, 0, 6, 0, 30, 62, 127, 255, 255, 1023, 2047]
def B44 : List Nat := [0, 1, 3, 7, 15, 0, 32, 96, 224, 511, 1023, 2047, 4095]
def B45 : List Nat := [0, 0, 0, 6, 14, 0, 63, 127]
def B46 : List Nat := [0, 0, 0, 6, 14, 30, 30, 30, 222, 478, 30, 2046, 4094, 8190, 4095, 32767]
def B47 : List Nat := [0, 1, 3, 0, 0, 31]
def B48 : List Nat := [0, 1, 3, 7, 15, 0, 32, 96, 224, 511, 1023]
def B49 : List Nat := [0, 0, 0, 4, 12, 28, 1, 67, 255]
def B50 : List Nat := [0, 0, 2, 6, 14, 1, 63, 127]
def B51 : List Nat := [0, 0, 3, 7, 0, 0, 48, 112, 255]
def B52 : List Nat := [0, 0, 2, 7, 0, 16, 63, 127]
def B53 : List Nat := [0, 1, 3, 7, 15, 31, 63, 127, 255, 31, 543, 1567, 3615, 8191, 16383, 32767, 65535, 131071, 262143, 524287, 65535, 1114111, 3211263, 7405567, 16777215, 33554431, 67108863]
def B54 : List Nat := [0, 0, 1, 0, 15, 31, 63, 31]
def B55 : List Nat := [0, 1, 3, 7, 15, 31, 7, 71, 199, 511, 1023]
def B56 : List Nat := [0, 1, 0, 0, 0, 28, 63, 127, 255, 255, 255, 2047, 4095, 8191]
def B57 : List Nat := [0, 1, 0, 0, 8, 24, 56, 127, 255, 511, 1023]
def B58 : List Nat := [0, 1, 3, 0, 8, 31]
def B59 : List Nat := [0, 0, 2, 6, 14, 0, 32, 0, 224, 480, 1023]
def B60 : List Nat := [0, 0, 2, 6, 14, 0, 32, 96, 224, 511]
def B61 : List Nat := [0, 0, 0, 6, 14, 0, 0, 96, 224, 511, 1023]
def B62 : List Nat := [0, 0, 0, 4, 14, 30, 0, 0, 192, 448, 1023, 2047]
def B63 : List Nat := [0, 1, 3, 7, 0, 16, 0, 112, 240, 0, 0, 2047, 4095]
def B64 : List Nat := [0, 0, 0, 6, 0, 30, 62, 127, 255]
def B65 : List Nat := [0, 0, 2, 7, 15, 31, 31, 95, 255, 511, 1023, 1023, 4095, 8191, 1023, 1023, 50175, 115711, 262143, 524287, 1048575, 2097151]
def B66 : List Nat := [0, 0, 2, 7, 15, 31, 31, 127, 255, 31, 31, 1567, 3615, 8191, 16383, 32767]
def B67 : List Nat := [0, 1, 0, 7, 0, 16, 0, 112, 255, 0, 512, 0, 2048, 8191, 16383, 32767, 65535]
def B68 : List Nat := [0, 1, 3, 7, 7, 7, 39, 119, 247, 7, 7, 1543, 3591, 8191, 16383, 32767, 65535]
def B69 : List Nat := [0, 0, 3, 7, 15, 15, 15, 111, 239, 15, 15, 1039, 3599, 7695, 16383, 32767, 65535]
def B70 : List Nat := [0, 0, 0, 0, 8, 0, 0, 64, 224, 480, 0, 0, 3072, 7168, 16355, 32739, 65535, 131071]
def LVL : List (Nat × List Nat) := [(0, [39, 1, 3]), (1, [8, 1, 2, 3]), (2, [14, 15, 1, 2, 4, 3, 5]), (3, [25, 2, 4]), (4, [11, 3, 1, 4]), (5, [14, 5, 8, 3, 9, 11, 7, 6]), (6, [19, 2, 6, 7, 9, 4, 5, 8]), (7, [15, 1, 6, 4]), (8, [10, 11, 3, 4, 5]), (9, [31, 6, 4]), (10, [10, 3, 4]), (11, [7, 8, 3, 4, 2]), (12, [14, 5, 8, 3, 9, 11, 7, 6]), (13, [9, 6, 3, 5]), (14, [10, 5, 6]), (15, [6, 3, 4]), (16, [12, 5, 6]), (17, [6, 2, 4, 3]), (18, [7, 3, 4, 2])]
def LV (id : Nat) : List Nat := (lookT LVL id).getD []
def toldT : List Nat := [6, 32, 48, 68, 69, 75, 76, 77, 78, 80, 81, 82, 95, 118, 136, 137, 138, 141, 147, 161, 181, 183, 261, 304, 310, 391]
def npT (f : Nat) : Bool := !(toldT.any fun g => Nat.beq g f)
noncomputable def L0 : LFn := ⟨45, [39, 1, 3], [(some 0)], cC LV [39, 1, 3] 45 (codeAt [1, 1, 1, 1, 1, 0, 1, 0, 1, 0, 0] (bodyOf Tryz.f24)) 0, cC LV [39, 1, 3] 45 (codeAt [1, 1, 1, 1, 1, 0, 1, 0, 1, 0, 1] (bodyOf Tryz.f24)) 0⟩
noncomputable def M0 (E : Env) : ZLn := ⟨45, [39, 1, 3], [(some 0)], fun cy Y fuel =>
  (zReg fun k => (zV 2 (vMv (.v 0))) k), fun cy Y fuel =>
  (zBlock 3 (zReg fun k => (zL 1 false (.v 1)) ((zCall (cy Y) 66 [(.l 0), (.v 2)] .push) k)))⟩
theorem M0_ok (fn : Nat → Option Func) (pu : Nat → Bool) (pr : Nat → List AV → Option (Heap → Option (Eff × Acc))) : ZLOk ⟨Tryz.tyT, fn, pu, pr⟩ npT L0 (M0 ⟨Tryz.tyT, fn, pu, pr⟩) := ⟨rfl, fun cy Y k => by kernel_rfl, fun cy Y k => by kernel_rfl⟩
noncomputable def L1 : LFn := ⟨38, [8, 1, 2, 3], [(some 0)], cC LV [8, 1, 2, 3] 38 (codeAt [1, 0, 1, 0, 0] (bodyOf Tryz.f63)) 0, cC LV [8, 1, 2, 3] 38 (codeAt [1, 0, 1, 0, 1] (bodyOf Tryz.f63)) 2⟩
noncomputable def M1 (E : Env) : ZLn := ⟨38, [8, 1, 2, 3], [(some 0)], fun cy Y fuel =>
  (zReg fun k => (zStep E (cy Y) ⟨.alloc 3, (.var 2), none, false, 0, (some 0)⟩) ((zStep E (cy Y) ⟨.store 3 (.v 2) (.v 0), .none, none, false, 1, none⟩) k)), fun cy Y fuel =>
  (zBlock 1 (zSeq (zReg fun k => (zStep E (cy Y) ⟨.alloc 39, (.var 3), none, false, 0, (some 0)⟩) k)
  (zSeq (zSeq (zReg fun k => (zL 1 false (.v 1)) ((zP (vNilCheck (.l 0))) ((zP (vFieldAddr 6 (.l 0))) ((zL 1 false (.l 0)) ((zCall (cy Y) 119 [(.l 0)] .push) k)))))
  (zBlock 2 (zRange cy Y (.l 0) 2 [none, none, (some (.v 1)), (some (.v 2)), none, (some (.v 3)), none] [none, (some (.v 1)), (some (.v 2)), (some (.v 3)), none, none, none, none, none, none, none, none, none, none, none, none, none, none, none, none, none, none, none, none, none, none, none, none, none, none, none, none, none, none, none, none, none, none] [14, 15] (codeAt [1, 0, 1, 0, 1, 0, 1, 0, 1, 0, 0] (bodyOf Tryz.f63)) (codeAt [1, 0, 1, 0, 1, 0, 1, 0, 1, 0, 1] (bodyOf Tryz.f63)))))
  (zSeq (zReg fun k => (zL 1 false (.v 3)) ((zP (vLenL (.l 0))) ((zP (vInt E fGtr .gtr 3 false true (.l 0) (.k (.int .i64 0)))) k)))
  (zCond (.l 0) (zReg fun k => (zL 1 false (.v 1)) ((zL 1 false (.v 2)) ((zL 1 false (.v 3)) ((zStep E (cy Y) ⟨.build 42 [(0, (.k (.int .i64 5))), (2, (.l 1)), (7, (.l 0))], .push, none, false, 3, none⟩) ((zCall (cy Y) 64 [(.l 3), (.l 0)] .push) k))))) zSkip)))))⟩
theorem M1_ok (fn : Nat → Option Func) (pu : Nat → Bool) (pr : Nat → List AV → Option (Heap → Option (Eff × Acc))) : ZLOk ⟨Tryz.tyT, fn, pu, pr⟩ npT L1 (M1 ⟨Tryz.tyT, fn, pu, pr⟩) := ⟨rfl, fun cy Y k => by kernel_rfl, fun cy Y k => by kernel_rfl⟩
noncomputable def L2 : LFn := ⟨38, [14, 15, 1, 2, 4, 3, 5], [(some 0), (some 1)], cC LV [14, 15, 1, 2, 4, 3, 5] 38 (codeAt [1, 0, 1, 0, 1, 0, 1, 0, 1, 0, 0] (bodyOf Tryz.f63)) 0, cC LV [14, 15, 1, 2, 4, 3, 5] 38 (codeAt [1, 0, 1, 0, 1, 0, 1, 0, 1, 0, 1] (bodyOf Tryz.f63)) 0⟩
noncomputable def M2 (E : Env) : ZLn := ⟨38, [14, 15, 1, 2, 4, 3, 5], [(some 0), (some 1)], fun cy Y fuel =>
  (zSeq (zReg fun k => (zV 4 (vMv (.v 0))) k)
  (zReg fun k => (zStep E (cy Y) ⟨.alloc 38, (.var 6), none, false, 0, (some 0)⟩) ((zStep E (cy Y) ⟨.store 38 (.v 6) (.v 1), .none, none, false, 1, none⟩) k))), fun cy Y fuel =>
  (zBlock 3 (zSeq (zReg fun k => (zL 1 false (.v 2)) ((zL 1 false (.v 3)) ((zCall (cy Y) 84 [(.l 1), (.l 0), (.v 4)] .push) k)))
  (zCond (.l 0) (zReg fun k => (zL 1 false (.v 5)) ((zL 5 true (.v 6)) ((zStep E (cy Y) ⟨.build 122 [(0, (.v 4)), (1, (.l 0))], .push, none, false, 3, none⟩) ((zStep E (cy Y) ⟨.buildSlice 39 1 [(0, (.l 0))], .push, none, false, 4, (some 0)⟩) ((zStep E (cy Y) ⟨.append 39 39 (.l 3) (.l 0), .push, none, false, 5, (some 1)⟩) ((zStep E (cy Y) ⟨.store 39 (.v 5) (.l 0), .none, none, false, 6, none⟩) k)))))) zSkip)))⟩
theorem M2_ok (fn : Nat → Option Func) (pu : Nat → Bool) (pr : Nat → List AV → Option (Heap → Option (Eff × Acc))) : ZLOk ⟨Tryz.tyT, fn, pu, pr⟩ npT L2 (M2 ⟨Tryz.tyT, fn, pu, pr⟩) := ⟨rfl, fun cy Y k => by kernel_rfl, fun cy Y k => by kernel_rfl⟩
noncomputable def L3 : LFn := ⟨29, [25, 2, 4], [(some 0)], cC LV [25, 2, 4] 29 (codeAt [1, 1, 1, 1, 0, 0] (bodyOf Tryz.f70)) 0, cC LV [25, 2, 4] 29 (codeAt [1, 1, 1, 1, 0, 1] (bodyOf Tryz.f70)) 0⟩
noncomputable def M3 (E : Env) : ZLn := ⟨29, [25, 2, 4], [(some 0)], fun cy Y fuel =>
  (zReg fun k => (zV 2 (vMv (.v 0))) k), fun cy Y fuel =>
  (zBlock 1 (zReg fun k => (zL 1 false (.v 1)) ((zCall (cy Y) 129 [(.l 0), (.v 2)] .push) k)))⟩
theorem M3_ok (fn : Nat → Option Func) (pu : Nat → Bool) (pr : Nat → List AV → Option (Heap → Option (Eff × Acc))) : ZLOk ⟨Tryz.tyT, fn, pu, pr⟩ npT L3 (M3 ⟨Tryz.tyT, fn, pu, pr⟩) := ⟨rfl, fun cy Y k => by kernel_rfl, fun cy Y k => by kernel_rfl⟩
noncomputable def L4 : LFn := ⟨27, [11, 3, 1, 4], [(some 0)], cC LV [11, 3, 1, 4] 27 (codeAt [1, 1, 0, 1, 0, 0] (bodyOf Tryz.f71)) 0, cC LV [11, 3, 1, 4] 27 (codeAt [1, 1, 0, 1, 0, 1] (bodyOf Tryz.f71)) 0⟩
noncomputable def M4 (E : Env) : ZLn := ⟨27, [11, 3, 1, 4], [(some 0)], fun cy Y fuel =>
  (zReg fun k => (zStep E (cy Y) ⟨.alloc 122, (.var 3), none, false, 0, (some 0)⟩) ((zStep E (cy Y) ⟨.store 122 (.v 3) (.v 0), .none, none, false, 1, none⟩) k)), fun cy Y fuel =>
  (zBlock 1 (zDreg 3 fun n0 k => (zLD B20 0 1 false (.v 1)) ((zLD B20 1 1 false (.v 2)) ((zPD (vFieldAddr 0 (.v 3))) ((zLD B20 3 1 false (.l 0)) ((zPD (vFieldAddr 1 (.v 3))) ((zLD B20 5 5 true (.l 0)) ((zCallD (cy Y) B20 6 131 [(.l 4), (.l 2), (.l 0)] .push) ((zStepD E (cy Y) B20 n0 ⟨.buildSlice 34 1 [(0, (.l 0))], .push, none, false, 7, (some 1)⟩) ((zStepD E (cy Y) B20 n0 ⟨.append 34 34 (.l 7) (.l 0), .push, none, false, 8, (some 2)⟩) ((zStepD E (cy Y) B20 n0 ⟨.store 34 (.v 1) (.l 0), .none, none, false, 9, none⟩) k)))))))))))⟩
theorem M4_ok (fn : Nat → Option Func) (pu : Nat → Bool) (pr : Nat → List AV → Option (Heap → Option (Eff × Acc))) : ZLOk ⟨Tryz.tyT, fn, pu, pr⟩ npT L4 (M4 ⟨Tryz.tyT, fn, pu, pr⟩) := ⟨rfl, fun cy Y k => by kernel_rfl, fun cy Y k => by kernel_rfl⟩
noncomputable def L5 : LFn := ⟨35, [14, 5, 8, 3, 9, 11, 7, 6], [(some 0)], cC LV [14, 5, 8, 3, 9, 11, 7, 6] 35 (codeAt [1, 1, 0, 1, 0, 0] (bodyOf Tryz.f82)) 0, cC LV [14, 5, 8, 3, 9, 11, 7, 6] 35 (codeAt [1, 1, 0, 1, 0, 1] (bodyOf Tryz.f82)) 0⟩
noncomputable def M5 (E : Env) : ZLn := ⟨35, [14, 5, 8, 3, 9, 11, 7, 6], [(some 0)], fun cy Y fuel =>
  (zReg fun k => (zStep E (cy Y) ⟨.alloc 153, (.var 2), none, false, 0, (some 0)⟩) ((zStep E (cy Y) ⟨.store 153 (.v 2) (.v 0), .none, none, false, 1, none⟩) k)), fun cy Y fuel =>
  (zBlock 1 (zSeq (zReg fun k => (zL 1 false (.v 1)) ((zL 2 true (.v 2)) ((zStep E (cy Y) ⟨.callv (.l 1) [(.l 0)], .push, none, false, 2, (some 0)⟩) ((zV 4 (vMv (.l 0))) k))))
  (zSeq (zSeq (zReg fun k => (zL 1 false (.v 3)) ((zStep E (cy Y) ⟨.call 78 [(.l 0), (.v 4)], .push, none, false, 2, (some 0)⟩) ((zP (vExtract 0 (.l 0))) ((zP (vExtract 1 (.l 1))) ((zStep E (cy Y) ⟨.alloc 83, .push, none, false, 6, (some 1)⟩) ((zStep E (cy Y) ⟨.store 83 (.l 0) (.l 2), .none, none, false, 7, none⟩) ((zV 5 (vMv (.l 1))) k)))))))
  (zSeq (zReg fun k => (zP (vNot (.v 5))) ((zG (.l 0) false .push (zP (vMv (.v 4)))) ((zG (.l 1) false .push (zL 1 false (.v 6))) ((zG (.l 2) false .push (zP (vInt E (fGen .leq) .leq 9 false false (.l 1) (.l 0)))) ((zP (vPick (.l 3) (.k (.bool true)) (.l 0))) k)))))
  (zCond (.l 0) (zSeq (zReg fun k => (zStep E (cy Y) ⟨.store 4 (.v 7) (.k (.bool false)), .none, none, false, 0, none⟩) k)
  zRet) zSkip)))
  (zReg fun k => (zStep E (cy Y) ⟨.store 9 (.v 6) (.v 4), .none, none, false, 1, none⟩) k))))⟩
theorem M5_ok (fn : Nat → Option Func) (pu : Nat → Bool) (pr : Nat → List AV → Option (Heap → Option (Eff × Acc))) : ZLOk ⟨Tryz.tyT, fn, pu, pr⟩ npT L5 (M5 ⟨Tryz.tyT, fn, pu, pr⟩) := ⟨rfl, fun cy Y k => by kernel_rfl, fun cy Y k => by kernel_rfl⟩
noncomputable def L6 : LFn := ⟨33, [19, 2, 6, 7, 9, 4, 5, 8], [(some 0)], cC LV [19, 2, 6, 7, 9, 4, 5, 8] 33 (codeAt [1, 1, 1, 0, 1, 0, 0] (bodyOf Tryz.f111)) 0, cC LV [19, 2, 6, 7, 9, 4, 5, 8] 33 (codeAt [1, 1, 1, 0, 1, 0, 1] (bodyOf Tryz.f111)) 0⟩
noncomputable def M6 (E : Env) : ZLn := ⟨33, [19, 2, 6, 7, 9, 4, 5, 8], [(some 0)], fun cy Y fuel =>
  (zReg fun k => (zStep E (cy Y) ⟨.alloc 38, (.var 3), none, false, 0, (some 0)⟩) ((zStep E (cy Y) ⟨.store 38 (.v 3) (.v 0), .none, none, false, 1, none⟩) k)), fun cy Y fuel =>
  (zBlock 1 (zSeq (zReg fun k => (zL 2 true (.v 1)) ((zL 5 true (.v 2)) ((zL 5 true (.v 3)) ((zCall (cy Y) 150 [(.l 2), (.l 1), (.l 0)] .push) ((zP (vExtract 0 (.l 0))) ((zP (vExtract 1 (.l 1))) ((zStep E (cy Y) ⟨.alloc 38, (.var 7), none, false, 7, (some 1)⟩) ((zStep E (cy Y) ⟨.store 38 (.v 7) (.l 1), .none, none, false, 8, none⟩) ((zV 4 (vMv (.l 0))) k)))))))))
  (zSeq (zSeq (zReg fun k => (zP (vInt E fNeq .neq 55 false true (.v 4) (.k .nilIface))) k)
  (zCond (.l 0) (zSeq (zReg fun k => (zStep E (cy Y) ⟨.build 38 [], .push, none, false, 0, none⟩) ((zStep E (cy Y) ⟨.store 38 (.v 5) (.l 0), .none, none, false, 2, none⟩) ((zStep E (cy Y) ⟨.store 55 (.v 6) (.v 4), .none, none, false, 3, none⟩) k)))
  zRet) zSkip))
  (zReg fun k => (zL 5 true (.v 7)) ((zStep E (cy Y) ⟨.store 38 (.v 2) (.l 0), .none, none, false, 1, none⟩) k)))))⟩
theorem M6_ok (fn : Nat → Option Func) (pu : Nat → Bool) (pr : Nat → List AV → Option (Heap → Option (Eff × Acc))) : ZLOk ⟨Tryz.tyT, fn, pu, pr⟩ npT L6 (M6 ⟨Tryz.tyT, fn, pu, pr⟩) := ⟨rfl, fun cy Y k => by kernel_rfl, fun cy Y k => by kernel_rfl⟩
noncomputable def L7 : LFn := ⟨79, [15, 1, 6, 4], [(some 0)], cC LV [15, 1, 6, 4] 79 (codeAt [1, 1, 0, 1, 0, 0] (bodyOf Tryz.f116)) 0, cC LV [15, 1, 6, 4] 79 (codeAt [1, 1, 0, 1, 0, 1] (bodyOf Tryz.f116)) 0⟩
noncomputable def M7 (E : Env) : ZLn := ⟨79, [15, 1, 6, 4], [(some 0)], fun cy Y fuel =>
  (zReg fun k => (zV 2 (vMv (.v 0))) k), fun cy Y fuel =>
  (zBlock 1 (zSeq (zReg fun k => (zL 1 false (.v 1)) ((zP (vNilCheck (.l 0))) ((zP (vFieldAddr 1 (.l 0))) ((zL 1 false (.l 0)) ((zCall (cy Y) 180 [(.l 0), (.v 2)] .push) ((zP (vNot (.l 0))) k))))))
  (zCond (.l 0) (zReg fun k => (zL 1 false (.v 3)) ((zStep E (cy Y) ⟨.call 181 [(.l 0), (.v 2)], .push, none, false, 2, (some 0)⟩) ((zStep E (cy Y) ⟨.store 34 (.v 3) (.l 0), .none, none, false, 3, none⟩) k))) zSkip)))⟩
theorem M7_ok (fn : Nat → Option Func) (pu : Nat → Bool) (pr : Nat → List AV → Option (Heap → Option (Eff × Acc))) : ZLOk ⟨Tryz.tyT, fn, pu, pr⟩ npT L7 (M7 ⟨Tryz.tyT, fn, pu, pr⟩) := ⟨rfl, fun cy Y k => by kernel_rfl, fun cy Y k => by kernel_rfl⟩
noncomputable def L8 : LFn := ⟨19, [10, 11, 3, 4, 5], [(some 0), (some 1)], cC LV [10, 11, 3, 4, 5] 19 (codeAt [1, 1, 0, 1, 0, 0] (bodyOf Tryz.f125)) 0, cC LV [10, 11, 3, 4, 5] 19 (codeAt [1, 1, 0, 1, 0, 1] (bodyOf Tryz.f125)) 0⟩
noncomputable def M8 (E : Env) : ZLn := ⟨19, [10, 11, 3, 4, 5], [(some 0), (some 1)], fun cy Y fuel =>
  (zSeq (zReg fun k => (zV 3 (vMv (.v 0))) k)
  (zReg fun k => (zStep E (cy Y) ⟨.alloc 38, (.var 4), none, false, 0, (some 0)⟩) ((zStep E (cy Y) ⟨.store 38 (.v 4) (.v 1), .none, none, false, 1, none⟩) k))), fun cy Y fuel =>
  (zBlock 1 (zReg fun k => (zL 1 false (.v 2)) ((zL 5 true (.v 4)) ((zStep E (cy Y) ⟨.build 122 [(0, (.v 3)), (1, (.l 0))], .push, none, false, 3, none⟩) ((zStep E (cy Y) ⟨.buildSlice 39 1 [(0, (.l 0))], .push, none, false, 4, (some 0)⟩) ((zStep E (cy Y) ⟨.append 39 39 (.l 3) (.l 0), .push, none, false, 5, (some 1)⟩) ((zStep E (cy Y) ⟨.store 39 (.v 2) (.l 0), .none, none, false, 6, none⟩) k)))))))⟩
theorem M8_ok (fn : Nat → Option Func) (pu : Nat → Bool) (pr : Nat → List AV → Option (Heap → Option (Eff × Acc))) : ZLOk ⟨Tryz.tyT, fn, pu, pr⟩ npT L8 (M8 ⟨Tryz.tyT, fn, pu, pr⟩) := ⟨rfl, fun cy Y k => by kernel_rfl, fun cy Y k => by kernel_rfl⟩
noncomputable def L9 : LFn := ⟨46, [31, 6, 4], [none, (some 0)], cC LV [31, 6, 4] 46 (codeAt [1, 1, 0, 1, 0, 0] (bodyOf Tryz.f127)) 0, cC LV [31, 6, 4] 46 (codeAt [1, 1, 0, 1, 0, 1] (bodyOf Tryz.f127)) 0⟩
noncomputable def M9 (E : Env) : ZLn := ⟨46, [31, 6, 4], [none, (some 0)], fun cy Y fuel =>
  (zReg fun k => (zV 1 (vMv (.v 0))) k), fun cy Y fuel =>
  (zBlock 1 (zReg fun k => (zStep E (cy Y) ⟨.store 3 (.v 2) (.v 1), .none, none, false, 1, none⟩) k))⟩
theorem M9_ok (fn : Nat → Option Func) (pu : Nat → Bool) (pr : Nat → List AV → Option (Heap → Option (Eff × Acc))) : ZLOk ⟨Tryz.tyT, fn, pu, pr⟩ npT L9 (M9 ⟨Tryz.tyT, fn, pu, pr⟩) := ⟨rfl, fun cy Y k => by kernel_rfl, fun cy Y k => by kernel_rfl⟩
noncomputable def L10 : LFn := ⟨17, [10, 3, 4], [(some 0), none], cC LV [10, 3, 4] 17 (codeAt [1, 1, 0, 1, 0, 0] (bodyOf Tryz.f128)) 0, cC LV [10, 3, 4] 17 (codeAt [1, 1, 0, 1, 0, 1] (bodyOf Tryz.f128)) 0⟩
noncomputable def M10 (E : Env) : ZLn := ⟨17, [10, 3, 4], [(some 0), none], fun cy Y fuel =>
  (zReg fun k => (zV 2 (vMv (.v 0))) k), fun cy Y fuel =>
  (zBlock 1 (zReg fun k => (zL 1 false (.v 1)) ((zStep E (cy Y) ⟨.buildSlice 34 1 [(0, (.v 2))], .push, none, false, 2, (some 0)⟩) ((zStep E (cy Y) ⟨.append 34 34 (.l 1) (.l 0), .push, none, false, 3, (some 1)⟩) ((zStep E (cy Y) ⟨.store 34 (.v 1) (.l 0), .none, none, false, 4, none⟩) k)))))⟩
theorem M10_ok (fn : Nat → Option Func) (pu : Nat → Bool) (pr : Nat → List AV → Option (Heap → Option (Eff × Acc))) : ZLOk ⟨Tryz.tyT, fn, pu, pr⟩ npT L10 (M10 ⟨Tryz.tyT, fn, pu, pr⟩) := ⟨rfl, fun cy Y k => by kernel_rfl, fun cy Y k => by kernel_rfl⟩
noncomputable def L11 : LFn := ⟨12, [7, 8, 3, 4, 2], [(some 0), (some 1)], cC LV [7, 8, 3, 4, 2] 12 (codeAt [1, 0, 1, 0, 0] (bodyOf Tryz.f142)) 0, cC LV [7, 8, 3, 4, 2] 12 (codeAt [1, 0, 1, 0, 1] (bodyOf Tryz.f142)) 0⟩
noncomputable def M11 (E : Env) : ZLn := ⟨12, [7, 8, 3, 4, 2], [(some 0), (some 1)], fun cy Y fuel =>
  (zSeq (zReg fun k => (zV 2 (vMv (.v 0))) k)
  (zReg fun k => (zV 3 (vMv (.v 1))) k)), fun cy Y fuel =>
  (zBlock 1 (zSeq (zReg fun k => (zP (vInt E (fGen .geq) .geq 9 false false (.v 2) (.v 3))) k)
  (zCond (.l 0) (zSeq (zReg fun k => (zStep E (cy Y) ⟨.store 4 (.v 4) (.k (.bool false)), .none, none, false, 0, none⟩) k)
  zRet) zSkip)))⟩
theorem M11_ok (fn : Nat → Option Func) (pu : Nat → Bool) (pr : Nat → List AV → Option (Heap → Option (Eff × Acc))) : ZLOk ⟨Tryz.tyT, fn, pu, pr⟩ npT L11 (M11 ⟨Tryz.tyT, fn, pu, pr⟩) := ⟨rfl, fun cy Y k => by kernel_rfl, fun cy Y k => by kernel_rfl⟩
noncomputable def L12 : LFn := ⟨35, [14, 5, 8, 3, 9, 11, 7, 6], [(some 0)], cC LV [14, 5, 8, 3, 9, 11, 7, 6] 35 (codeAt [1, 1, 0, 1, 0, 0] (bodyOf Tryz.f144)) 0, cC LV [14, 5, 8, 3, 9, 11, 7, 6] 35 (codeAt [1, 1, 0, 1, 0, 1] (bodyOf Tryz.f144)) 0⟩
noncomputable def M12 (E : Env) : ZLn := ⟨35, [14, 5, 8, 3, 9, 11, 7, 6], [(some 0)], fun cy Y fuel =>
  (zReg fun k => (zStep E (cy Y) ⟨.alloc 122, (.var 2), none, false, 0, (some 0)⟩) ((zStep E (cy Y) ⟨.store 122 (.v 2) (.v 0), .none, none, false, 1, none⟩) k)), fun cy Y fuel =>
  (zBlock 1 (zSeq (zReg fun k => (zL 1 false (.v 1)) ((zL 6 true (.v 2)) ((zStep E (cy Y) ⟨.callv (.l 1) [(.l 0)], .push, none, false, 2, (some 0)⟩) ((zV 4 (vMv (.l 0))) k))))
  (zSeq (zSeq (zReg fun k => (zL 1 false (.v 3)) ((zStep E (cy Y) ⟨.call 78 [(.l 0), (.v 4)], .push, none, false, 2, (some 0)⟩) ((zP (vExtract 0 (.l 0))) ((zP (vExtract 1 (.l 1))) ((zStep E (cy Y) ⟨.alloc 83, .push, none, false, 6, (some 1)⟩) ((zStep E (cy Y) ⟨.store 83 (.l 0) (.l 2), .none, none, false, 7, none⟩) ((zV 5 (vMv (.l 1))) k)))))))
  (zSeq (zReg fun k => (zP (vNot (.v 5))) ((zG (.l 0) false .push (zP (vMv (.v 4)))) ((zG (.l 1) false .push (zL 1 false (.v 6))) ((zG (.l 2) false .push (zP (vInt E (fGen .leq) .leq 9 false false (.l 1) (.l 0)))) ((zP (vPick (.l 3) (.k (.bool true)) (.l 0))) k)))))
  (zCond (.l 0) (zSeq (zReg fun k => (zStep E (cy Y) ⟨.store 4 (.v 7) (.k (.bool false)), .none, none, false, 0, none⟩) k)
  zRet) zSkip)))
  (zReg fun k => (zStep E (cy Y) ⟨.store 9 (.v 6) (.v 4), .none, none, false, 1, none⟩) k))))⟩
theorem M12_ok (fn : Nat → Option Func) (pu : Nat → Bool) (pr : Nat → List AV → Option (Heap → Option (Eff × Acc))) : ZLOk ⟨Tryz.tyT, fn, pu, pr⟩ npT L12 (M12 ⟨Tryz.tyT, fn, pu, pr⟩) := ⟨rfl, fun cy Y k => by kernel_rfl, fun cy Y k => by kernel_rfl⟩
noncomputable def L13 : LFn := ⟨18, [9, 6, 3, 5], [(some 0)], cC LV [9, 6, 3, 5] 18 (codeAt [1, 1, 0, 1, 0, 0] (bodyOf Tryz.f182)) 0, cC LV [9, 6, 3, 5] 18 (codeAt [1, 1, 0, 1, 0, 1] (bodyOf Tryz.f182)) 0⟩
noncomputable def M13 (E : Env) : ZLn := ⟨18, [9, 6, 3, 5], [(some 0)], fun cy Y fuel =>
  (zReg fun k => (zV 1 (vMv (.v 0))) k), fun cy Y fuel =>
  (zBlock 1 (zSeq (zReg fun k => (zL 1 false (.v 2)) ((zP (vInt E fNeq .neq 9 false false (.v 1) (.l 0))) k))
  (zCond (.l 0) (zReg fun k => (zL 1 false (.v 3)) ((zStep E (cy Y) ⟨.buildSlice 34 1 [(0, (.v 1))], .push, none, false, 2, (some 0)⟩) ((zStep E (cy Y) ⟨.append 34 34 (.l 1) (.l 0), .push, none, false, 3, (some 1)⟩) ((zStep E (cy Y) ⟨.store 34 (.v 3) (.l 0), .none, none, false, 4, none⟩) k)))) zSkip)))⟩
theorem M13_ok (fn : Nat → Option Func) (pu : Nat → Bool) (pr : Nat → List AV → Option (Heap → Option (Eff × Acc))) : ZLOk ⟨Tryz.tyT, fn, pu, pr⟩ npT L13 (M13 ⟨Tryz.tyT, fn, pu, pr⟩) := ⟨rfl, fun cy Y k => by kernel_rfl, fun cy Y k => by kernel_rfl⟩
noncomputable def L14 : LFn := ⟨16, [10, 5, 6], [(some 0)], cC LV [10, 5, 6] 16 (codeAt [1, 1, 0, 1, 0, 0] (bodyOf Tryz.f183)) 0, cC LV [10, 5, 6] 16 (codeAt [1, 1, 0, 1, 0, 1] (bodyOf Tryz.f183)) 0⟩
noncomputable def M14 (E : Env) : ZLn := ⟨16, [10, 5, 6], [(some 0)], fun cy Y fuel =>
  (zReg fun k => (zV 2 (vMv (.v 0))) k), fun cy Y fuel =>
  (zBlock 1 (zReg fun k => (zL 1 false (.v 1)) ((zStep E (cy Y) ⟨.buildSlice 34 1 [(0, (.v 2))], .push, none, false, 2, (some 0)⟩) ((zStep E (cy Y) ⟨.append 34 34 (.l 1) (.l 0), .push, none, false, 3, (some 1)⟩) ((zStep E (cy Y) ⟨.store 34 (.v 1) (.l 0), .none, none, false, 4, none⟩) k)))))⟩
theorem M14_ok (fn : Nat → Option Func) (pu : Nat → Bool) (pr : Nat → List AV → Option (Heap → Option (Eff × Acc))) : ZLOk ⟨Tryz.tyT, fn, pu, pr⟩ npT L14 (M14 ⟨Tryz.tyT, fn, pu, pr⟩) := ⟨rfl, fun cy Y k => by kernel_rfl, fun cy Y k => by kernel_rfl⟩
noncomputable def L15 : LFn := ⟨14, [6, 3, 4], [(some 0)], cC LV [6, 3, 4] 14 (codeAt [1, 1, 0, 1, 0, 0] (bodyOf Tryz.f213)) 0, cC LV [6, 3, 4] 14 (codeAt [1, 1, 0, 1, 0, 1] (bodyOf Tryz.f213)) 0⟩
noncomputable def M15 (E : Env) : ZLn := ⟨14, [6, 3, 4], [(some 0)], fun cy Y fuel =>
  (zReg fun k => (zStep E (cy Y) ⟨.alloc 38, (.var 2), none, false, 0, (some 0)⟩) ((zStep E (cy Y) ⟨.store 38 (.v 2) (.v 0), .none, none, false, 1, none⟩) k)), fun cy Y fuel =>
  (zBlock 1 (zDreg 2 fun n0 k => (zLD B54 0 1 false (.v 1)) ((zLD B54 1 5 true (.v 2)) ((zPD (vLenL (.l 1))) ((zStepD E (cy Y) B54 n0 ⟨.buildSlice 36 1 [(0, (.k (.agg [(.int .u64 0), (.int .u64 0), (.sl 0 [] true), (.sl 0 [] true), (.sl 0 [] true)])))], .push, none, false, 3, (some 0)⟩) ((zStepD E (cy Y) B54 n0 ⟨.append 36 36 (.l 3) (.l 0), .push, none, false, 4, (some 1)⟩) ((zPD (vIndexAddr 5 (.l 0) (.l 2))) ((zStepD E (cy Y) B54 n0 ⟨.store 38 (.l 0) (.l 4), .none, none, false, 6, none⟩) ((zStepD E (cy Y) B54 n0 ⟨.store 36 (.v 1) (.l 1), .none, none, false, 7, none⟩) k)))))))))⟩
theorem M15_ok (fn : Nat → Option Func) (pu : Nat → Bool) (pr : Nat → List AV → Option (Heap → Option (Eff × Acc))) : ZLOk ⟨Tryz.tyT, fn, pu, pr⟩ npT L15 (M15 ⟨Tryz.tyT, fn, pu, pr⟩) := ⟨rfl, fun cy Y k => by kernel_rfl, fun cy Y k => by kernel_rfl⟩
noncomputable def L16 : LFn := ⟨18, [12, 5, 6], [(some 0)], cC LV [12, 5, 6] 18 (codeAt [1, 1, 0, 1, 0, 0] (bodyOf Tryz.f230)) 0, cC LV [12, 5, 6] 18 (codeAt [1, 1, 0, 1, 0, 1] (bodyOf Tryz.f230)) 0⟩
noncomputable def M16 (E : Env) : ZLn := ⟨18, [12, 5, 6], [(some 0)], fun cy Y fuel =>
  (zReg fun k => (zV 2 (vMv (.v 0))) k), fun cy Y fuel =>
  (zBlock 1 (zReg fun k => (zL 1 false (.v 1)) ((zStep E (cy Y) ⟨.buildSlice 98 1 [(0, (.v 2))], .push, none, false, 2, (some 0)⟩) ((zStep E (cy Y) ⟨.append 98 98 (.l 1) (.l 0), .push, none, false, 3, (some 1)⟩) ((zStep E (cy Y) ⟨.store 98 (.v 1) (.l 0), .none, none, false, 4, none⟩) k)))))⟩
theorem M16_ok (fn : Nat → Option Func) (pu : Nat → Bool) (pr : Nat → List AV → Option (Heap → Option (Eff × Acc))) : ZLOk ⟨Tryz.tyT, fn, pu, pr⟩ npT L16 (M16 ⟨Tryz.tyT, fn, pu, pr⟩) := ⟨rfl, fun cy Y k => by kernel_rfl, fun cy Y k => by kernel_rfl⟩
noncomputable def L17 : LFn := ⟨16, [6, 2, 4, 3], [(some 0)], cC LV [6, 2, 4, 3] 16 (codeAt [1, 1, 0, 0] (bodyOf Tryz.f283)) 0, cC LV [6, 2, 4, 3] 16 (codeAt [1, 1, 0, 1] (bodyOf Tryz.f283)) 0⟩
noncomputable def M17 (E : Env) : ZLn := ⟨16, [6, 2, 4, 3], [(some 0)], fun cy Y fuel =>
  (zReg fun k => (zStep E (cy Y) ⟨.alloc 38, (.var 2), none, false, 0, (some 0)⟩) ((zStep E (cy Y) ⟨.store 38 (.v 2) (.v 0), .none, none, false, 1, none⟩) k)), fun cy Y fuel =>
  (zBlock 1 (zSeq (zReg fun k => (zL 1 false (.v 1)) ((zL 5 true (.v 2)) ((zStep E (cy Y) ⟨.callv (.l 1) [(.l 0)], .push, none, false, 2, (some 0)⟩) ((zG (.l 0) true .push (zL 1 false (.v 3))) ((zG (.l 1) true .push (zL 5 true (.v 2))) ((zG (.l 2) true .push (zStep E (cy Y) ⟨.callv (.l 1) [(.l 0)], .push, none, false, 6, (some 1)⟩)) ((zG (.l 3) true .push (zP (vNot (.l 0)))) ((zP (vPick (.l 4) (.l 0) (.k (.bool false)))) k))))))))
  (zCond (.l 0) zRet zSkip)))⟩
theorem M17_ok (fn : Nat → Option Func) (pu : Nat → Bool) (pr : Nat → List AV → Option (Heap → Option (Eff × Acc))) : ZLOk ⟨Tryz.tyT, fn, pu, pr⟩ npT L17 (M17 ⟨Tryz.tyT, fn, pu, pr⟩) := ⟨rfl, fun cy Y k => by kernel_rfl, fun cy Y k => by kernel_rfl⟩
noncomputable def L18 : LFn := ⟨20, [7, 3, 4, 2], [(some 0)], cC LV [7, 3, 4, 2] 20 (codeAt [1, 1, 1, 0, 0] (bodyOf Tryz.f373)) 0, cC LV [7, 3, 4, 2] 20 (codeAt [1, 1, 1, 0, 1] (bodyOf Tryz.f373)) 0⟩
noncomputable def M18 (E : Env) : ZLn := ⟨20, [7, 3, 4, 2], [(some 0)], fun cy Y fuel =>
  (zReg fun k => (zV 2 (vMv (.v 0))) k), fun cy Y fuel =>
  (zBlock 1 (zSeq (zSeq (zReg fun k => (zL 1 false (.v 1)) ((zStep E (cy Y) ⟨.lookup 435 (.l 0) (.v 2) false, .push, none, false, 2, none⟩) ((zP (vNot (.l 0))) ((zG (.l 0) true .push (zL 1 false (.v 3))) ((zG (.l 1) true .push (zP (vMv (.v 2)))) ((zG (.l 2) true .push (zStep E (cy Y) ⟨.callv (.l 1) [(.l 0)], .push, none, false, 7, (some 0)⟩)) ((zG (.l 3) true .push (zP (vNot (.l 0)))) ((zP (vPick (.l 4) (.l 0) (.k (.bool false)))) k))))))))
  (zCond (.l 0) zRet zSkip))
  (zReg fun k => (zL 1 false (.v 1)) ((zStep E (cy Y) ⟨.mapUp 435 (.l 0) (.v 2) (.k (.bool true)), .none, none, false, 2, none⟩) k))))⟩
theorem M18_ok (fn : Nat → Option Func) (pu : Nat → Bool) (pr : Nat → List AV → Option (Heap → Option (Eff × Acc))) : ZLOk ⟨Tryz.tyT, fn, pu, pr⟩ npT L18 (M18 ⟨Tryz.tyT, fn, pu, pr⟩) := ⟨rfl, fun cy Y k => by kernel_rfl, fun cy Y k => by kernel_rfl⟩
noncomputable def F5 : FFn := cF LV 0 [0, 5, 4, 3, 6, 8, 7, 2] Tryz.f5
noncomputable def G5 (E : Env) : ZFn := ⟨46, [0, 5, 4, 3, 6, 8, 7, 2], fun cy Y fuel =>
  (zSeq (zReg fun k => (zV 7 (vMv (.k (.bool false)))) k)
  (zSeq (zSeq (zReg fun k => (zStep E (cy Y) ⟨.call 6 [], .push, none, false, 0, (some 0)⟩) ((zP (vNot (.l 0))) k))
  (zCond (.l 0) (zSeq (zReg fun k => (zV 7 (vMv (.k (.bool false)))) k)
  zRet) zSkip))
  (zSeq (zReg fun k => (zCall (cy Y) 9 [] .push) ((zCall (cy Y) 7 [(.k (.int .i64 1))] .push) ((zCall (cy Y) 8 [(.k (.int .i64 0)), (.l 1), (.l 0)] .push) ((zV 3 (vMv (.l 0))) k))))
  (zSeq (zReg fun k => (zP (vInt E (fGen .rem) .rem 5 false true (.v 0) (.k (.int .u8 12)))) ((zP (vConv .i64 (.l 0))) ((zV 2 (vMv (.l 0))) k)))
  (zSeq (zSeq (zReg fun k => (zV 1 (vMv (.k (.int .i64 0)))) k)
  (zBlock 0 (zLoop fuel (zSeq (zSeq (zReg fun k => (zP (vInt E fLss .lss 3 false false (.v 1) (.v 2))) k)
  (zCond (.l 0) zSkip (zExit 0)))
  (zSeq (zBlock 1 (zReg fun k => (zP (vConv .u64 (.v 1))) ((zStep E (cy Y) ⟨.build 42 [(0, (.k (.int .i64 3))), (1, (.k (.int .i64 100))), (3, (.l 0)), (5, (.k (.str [109, 49])))], .push, none, false, 3, none⟩) ((zCall (cy Y) 10 [(.v 3), (.l 0)] .push) k))))
  (zReg fun k => (zP (vMv (.v 1))) ((zP (vInt E fAdd .add 3 false true (.l 0) (.k (.int .i64 1)))) ((zV 1 (vMv (.l 0))) k))))))))
  (zSeq (zReg fun k => (zCall (cy Y) 24 [(.v 3)] .push) k)
  (zSeq (zReg fun k => (zCall (cy Y) 26 [(.v 3)] .push) ((zCall (cy Y) 25 [(.l 0), (.k (.str [109, 49]))] .push) ((zV 4 (vMv (.l 0))) k)))
  (zSeq (zReg fun k => (zCall (cy Y) 24 [(.v 3)] .push) k)
  (zSeq (zReg fun k => (zCall (cy Y) 26 [(.v 3)] .push) ((zCall (cy Y) 25 [(.l 0), (.k (.str [109, 49]))] .push) ((zV 6 (vMv (.l 0))) k)))
  (zSeq (zReg fun k => (zV 5 (vMv (.k (.int .i64 2)))) k)
  (zSeq (zSeq (zReg fun k => (zP (vInt E (fGen .geq) .geq 3 false true (.v 2) (.k (.int .i64 6)))) k)
  (zCond (.l 0) (zReg fun k => (zV 5 (vMv (.k (.int .i64 3)))) k) zSkip))
  (zSeq (zReg fun k => (zP (vInt E fEql .eql 3 false false (.v 4) (.v 5))) ((zG (.l 0) true .push (zP (vMv (.v 6)))) ((zG (.l 1) true .push (zP (vInt E fEql .eql 3 false true (.l 0) (.k (.int .i64 2))))) ((zP (vPick (.l 2) (.l 0) (.k (.bool false)))) ((zV 7 (vMv (.l 0))) k)))))
  zRet)))))))))))), [.tmp (.v 7)]⟩
theorem G5_ok (fn : Nat → Option Func) (pu : Nat → Bool) (pr : Nat → List AV → Option (Heap → Option (Eff × Acc))) : ZOk ⟨Tryz.tyT, fn, pu, pr⟩ npT F5 (G5 ⟨Tryz.tyT, fn, pu, pr⟩) := ⟨by kernel_rfl, by kernel_rfl, by kernel_rfl, fun cy Y k => by kernel_rfl⟩
noncomputable def F6 : FFn := cF LV 0 [1, 2, 3, 4, 5, 0] Tryz.f6
noncomputable def G6 (E : Env) : ZFn := ⟨106, [1, 2, 3, 4, 5, 0], fun cy Y fuel =>
  (zSeq (zReg fun k => (zV 5 (vMv (.k (.bool false)))) k)
  (zSeq (zReg fun k => (zCall (cy Y) 7 [(.k (.int .i64 1))] .push) ((zStep E (cy Y) ⟨.alloc 26, (.var 0), none, false, 1, (some 1)⟩) ((zStep E (cy Y) ⟨.store 26 (.v 0) (.l 0), .none, none, false, 2, none⟩) k)))
  (zSeq (zDreg 2 fun n0 k => (zCallD (cy Y) B0 0 9 [] .push) ((zLD B0 1 2 true (.v 0)) ((zCallD (cy Y) B0 2 8 [(.k (.int .i64 0)), (.l 1), (.l 0)] .push) ((zVD 1 (vMv (.l 0))) k))))
  (zSeq (zSeq (zReg fun k => (zP (vInt E fEql .eql 29 false true (.v 1) (.k .nilptr))) ((zG (.l 0) false .push (zP (vMv (.v 1)))) ((zG (.l 1) false .push (zCall (cy Y) 13 [(.l 0)] .push)) ((zG (.l 2) false .push (zP (vInt E fEql .eql 47 false true (.l 0) (.k .nilptr)))) ((zP (vPick (.l 3) (.k (.bool true)) (.l 0))) ((zG (.l 0) false .push (zP (vMv (.v 1)))) ((zG (.l 1) false .push (zCall (cy Y) 13 [(.l 0)] .push)) ((zG (.l 2) false .push (zCall (cy Y) 27 [(.l 0)] .push)) ((zG (.l 3) false .push (zP (vInt E fEql .eql 70 false true (.l 0) (.k .nilptr)))) ((zP (vPick (.l 4) (.k (.bool true)) (.l 0))) k))))))))))
  (zCond (.l 0) (zSeq (zReg fun k => (zV 5 (vMv (.k (.bool false)))) k)
  zRet) zSkip))
  (zSeq (zReg fun k => (zStep E (cy Y) ⟨.build 38 [(0, (.k (.int .u64 3)))], .push, none, false, 1, none⟩) ((zStep E (cy Y) ⟨.build 42 [(0, (.k (.int .i64 1))), (1, (.k (.int .i64 100))), (3, (.k (.int .u64 7))), (5, (.k (.str [109, 49]))), (6, (.l 0))], .push, none, false, 2, none⟩) ((zCall (cy Y) 10 [(.v 1), (.l 0)] .push) k)))
  (zSeq (zReg fun k => (zCall (cy Y) 28 [(.v 1)] .push) ((zV 2 (vMv (.l 0))) k))
  (zSeq (zReg fun k => (zCall (cy Y) 11 [(.v 1)] .push) ((zV 3 (vMv (.l 0))) k))
  (zSeq (zReg fun k => (zStep E (cy Y) ⟨.build 42 [(0, (.k (.int .i64 3))), (1, (.k (.int .i64 100))), (3, (.k (.int .u64 8))), (5, (.k (.str [109, 49])))], .push, none, false, 1, none⟩) ((zCall (cy Y) 10 [(.v 1), (.l 0)] .push) k))
  (zSeq (zReg fun k => (zCall (cy Y) 11 [(.v 1)] .push) ((zV 4 (vMv (.l 0))) k))
  (zSeq (zReg fun k => (zStep E (cy Y) ⟨.build 38 [(0, (.k (.int .u64 9)))], .push, none, false, 1, none⟩) ((zStep E (cy Y) ⟨.build 42 [(0, (.k (.int .i64 1))), (1, (.k (.int .i64 100))), (3, (.k (.int .u64 9))), (5, (.k (.str [109, 49]))), (6, (.l 0))], .push, none, false, 2, none⟩) ((zCall (cy Y) 10 [(.v 1), (.l 0)] .push) k)))
  (zSeq (zReg fun k => (zCall (cy Y) 29 [(.v 1), (.k (.int .i64 0))] .push) k)
  (zSeq (zDreg 6 fun n0 k => (zPD (vInt E fEql .eql 3 false true (.v 2) (.k (.int .i64 1)))) ((zGD (.l 0) true .push (zPD (vMv (.v 3)))) ((zGD (.l 1) true .push (zPD (vLenL (.l 0)))) ((zGD (.l 2) true .push (zPD (vInt E fEql .eql 3 false true (.l 0) (.k (.int .i64 1))))) ((zPD (vPick (.l 3) (.l 0) (.k (.bool false)))) ((zGD (.l 0) true .push (zPD (vMv (.v 3)))) ((zGD (.l 1) true .push (zPD (vIndexAddr 15 (.l 0) (.k (.int .i64 0))))) ((zGD (.l 2) true .push (zPD (vFieldAddr 0 (.l 0)))) ((zGD (.l 3) true .push (zLD B1 11 1 false (.l 0))) ((zGD (.l 4) true .push (zPD (vInt E fEql .eql 3 false true (.l 0) (.k (.int .i64 2))))) ((zPD (vPick (.l 5) (.l 0) (.k (.bool false)))) ((zGD (.l 0) true .push (zPD (vMv (.v 3)))) ((zGD (.l 1) true .push (zPD (vIndexAddr 15 (.l 0) (.k (.int .i64 0))))) ((zGD (.l 2) true .push (zPD (vFieldAddr 3 (.l 0)))) ((zGD (.l 3) true .push (zLD B1 18 1 false (.l 0))) ((zGD (.l 4) true .push (zPD (vInt E fEql .eql 33 false true (.l 0) (.k (.int .u64 7))))) ((zPD (vPick (.l 5) (.l 0) (.k (.bool false)))) ((zGD (.l 0) true .push (zPD (vMv (.v 3)))) ((zGD (.l 1) true .push (zPD (vIndexAddr 15 (.l 0) (.k (.int .i64 0))))) ((zGD (.l 2) true .push (zPD (vFieldAddr 4 (.l 0)))) ((zGD (.l 3) true .push (zLD B1 25 1 false (.l 0))) ((zGD (.l 4) true .push (zPD (vInt E fEql .eql 3 false true (.l 0) (.k (.int .i64 0))))) ((zPD (vPick (.l 5) (.l 0) (.k (.bool false)))) ((zGD (.l 0) true .push (zPD (vMv (.v 4)))) ((zGD (.l 1) true .push (zPD (vLenL (.l 0)))) ((zGD (.l 2) true .push (zPD (vInt E fEql .eql 3 false true (.l 0) (.k (.int .i64 1))))) ((zPD (vPick (.l 3) (.l 0) (.k (.bool false)))) ((zGD (.l 0) true .push (zPD (vMv (.v 4)))) ((zGD (.l 1) true .push (zPD (vIndexAddr 15 (.l 0) (.k (.int .i64 0))))) ((zGD (.l 2) true .push (zPD (vFieldAddr 6 (.l 0)))) ((zGD (.l 3) true .push (zPD (vFieldAddr 0 (.l 0)))) ((zGD (.l 4) true .push (zLD B1 38 1 false (.l 0))) ((zGD (.l 5) true .push (zPD (vInt E fEql .eql 33 false true (.l 0) (.k (.int .u64 3))))) ((zPD (vPick (.l 6) (.l 0) (.k (.bool false)))) ((zGD (.l 0) true .push (zPD (vMv (.v 1)))) ((zGD (.l 1) true .push (zCallD (cy Y) B1 43 28 [(.l 0)] .push)) ((zGD (.l 2) true .push (zPD (vInt E fEql .eql 3 false true (.l 0) (.k (.int .i64 0))))) ((zPD (vPick (.l 3) (.l 0) (.k (.bool false)))) ((zGD (.l 0) true .push (zPD (vMv (.v 1)))) ((zGD (.l 1) true .push (zCallD (cy Y) B1 48 13 [(.l 0)] .push)) ((zGD (.l 2) true .push (zCallD (cy Y) B1 49 14 [(.l 0), (.k (.str [109, 49]))] .push)) ((zGD (.l 3) true .push (zPD (vField 0 1 false (.l 0)))) ((zGD (.l 4) true .push (zPD (vInt E fEql .eql 33 false true (.l 0) (.k (.int .u64 3))))) ((zPD (vPick (.l 5) (.l 0) (.k (.bool false)))) ((zGD (.l 0) true .push (zPD (vMv (.v 1)))) ((zGD (.l 1) true .push (zCallD (cy Y) B1 55 30 [(.l 0)] .push)) ((zGD (.l 2) true .push (zPD (vInt E fEql .eql 55 false true (.l 0) (.k .nilIface)))) ((zPD (vPick (.l 3) (.l 0) (.k (.bool false)))) ((zGD (.l 0) true .push (zPD (vMv (.v 1)))) ((zGD (.l 1) true .push (zCallD (cy Y) B1 60 26 [(.l 0)] .push)) ((zGD (.l 2) true .push (zLD B1 61 2 true (.v 0))) ((zGD (.l 3) true .push (zCallD (cy Y) B1 62 31 [(.l 1), (.l 0)] .push)) ((zPD (vPick (.l 4) (.l 0) (.k (.bool false)))) ((zVD 5 (vMv (.l 0))) k))))))))))))))))))))))))))))))))))))))))))))))))))))))
  zRet)))))))))))), [.tmp (.v 5)]⟩
theorem G6_ok (fn : Nat → Option Func) (pu : Nat → Bool) (pr : Nat → List AV → Option (Heap → Option (Eff × Acc))) : ZOk ⟨Tryz.tyT, fn, pu, pr⟩ npT F6 (G6 ⟨Tryz.tyT, fn, pu, pr⟩) := ⟨by kernel_rfl, by kernel_rfl, by kernel_rfl, fun cy Y k => by kernel_rfl⟩
noncomputable def F7 : FFn := cF LV 0 [4, 0, 3, 2] Tryz.f7
noncomputable def G7 (E : Env) : ZFn := ⟨21, [4, 0, 3, 2], fun cy Y fuel =>
  (zSeq (zReg fun k => (zStep E (cy Y) ⟨.alloc 26, (.var 3), none, false, 0, (some 0)⟩) k)
  (zSeq (zReg fun k => (zStep E (cy Y) ⟨.build 26 [], .push, none, false, 0, none⟩) ((zStep E (cy Y) ⟨.alloc 26, (.var 2), none, false, 1, (some 0)⟩) ((zStep E (cy Y) ⟨.store 26 (.v 2) (.l 0), .none, none, false, 2, none⟩) k)))
  (zSeq (zSeq (zReg fun k => (zV 0 (vMv (.k (.int .i64 0)))) k)
  (zBlock 0 (zLoop fuel (zSeq (zSeq (zReg fun k => (zStep E (cy Y) ⟨.most false [(.v 1), (.k (.int .i64 4))], .push, none, false, 2, none⟩) ((zStep E (cy Y) ⟨.most true [(.k (.int .i64 1)), (.l 0)], .push, none, false, 3, none⟩) ((zP (vInt E fLss .lss 3 false false (.v 0) (.l 0))) k)))
  (zCond (.l 0) zSkip (zExit 0)))
  (zSeq (zBlock 1 (zReg fun k => (zP (vFieldAddr 0 (.v 2))) ((zL 1 false (.l 0)) ((zStep E (cy Y) ⟨.build 77 [(0, (.v 0)), (1, (.k (.int .u64 1)))], .push, none, false, 3, none⟩) ((zStep E (cy Y) ⟨.buildSlice 23 1 [(0, (.l 0))], .push, none, false, 4, (some 0)⟩) ((zStep E (cy Y) ⟨.append 23 23 (.l 2) (.l 0), .push, none, false, 5, (some 1)⟩) ((zP (vFieldAddr 0 (.v 2))) ((zStep E (cy Y) ⟨.store 23 (.l 0) (.l 1), .none, none, false, 7, none⟩) k))))))))
  (zReg fun k => (zP (vMv (.v 0))) ((zP (vInt E fAdd .add 3 false true (.l 0) (.k (.int .i64 1)))) ((zV 0 (vMv (.l 0))) k))))))))
  (zSeq (zReg fun k => (zL 2 true (.v 2)) ((zStep E (cy Y) ⟨.store 26 (.v 3) (.l 0), .none, none, false, 1, none⟩) k))
  zRet)))), [.cell (.v 3) 26]⟩
theorem G7_ok (fn : Nat → Option Func) (pu : Nat → Bool) (pr : Nat → List AV → Option (Heap → Option (Eff × Acc))) : ZOk ⟨Tryz.tyT, fn, pu, pr⟩ npT F7 (G7 ⟨Tryz.tyT, fn, pu, pr⟩) := ⟨by kernel_rfl, by kernel_rfl, by kernel_rfl, fun cy Y k => by kernel_rfl⟩
noncomputable def F8 : FFn := cF LV 0 [2, 0, 1, 5, 6] Tryz.f8
noncomputable def G8 (E : Env) : ZFn := ⟨17, [2, 0, 1, 5, 6], fun cy Y fuel =>
  (zSeq (zReg fun k => (zStep E (cy Y) ⟨.box 26 (.v 0), (.var 3), none, false, 0, (some 0)⟩) ((zV 4 (vMv (.k .nilptr))) k))
  (zSeq (zDreg 5 fun n0 k => (zStepD E (cy Y) B2 n0 ⟨.call 32 [(.v 2)], .push, none, false, 2, (some 0)⟩) ((zCallD (cy Y) B2 4 33 [(.v 2)] .push) ((zLD B2 5 2 true (.v 3)) ((zCallD (cy Y) B2 6 34 [] .push) ((zStepD E (cy Y) B2 n0 ⟨.mkMap 88, .push, none, false, 7, (some 3)⟩) ((zStepD E (cy Y) B2 n0 ⟨.build 90 [(0, (.v 1)), (1, (.l 4)), (2, (.l 3)), (3, (.l 2)), (4, (.l 1)), (5, (.l 0))], .push, none, false, 8, none⟩) ((zStepD E (cy Y) B2 n0 ⟨.box 90 (.l 0), .push, none, false, 9, (some 4)⟩) ((zVD 4 (vMv (.l 0))) k))))))))
  zRet)), [.tmp (.v 4)]⟩
theorem G8_ok (fn : Nat → Option Func) (pu : Nat → Bool) (pr : Nat → List AV → Option (Heap → Option (Eff × Acc))) : ZOk ⟨Tryz.tyT, fn, pu, pr⟩ npT F8 (G8 ⟨Tryz.tyT, fn, pu, pr⟩) := ⟨by kernel_rfl, by kernel_rfl, by kernel_rfl, fun cy Y k => by kernel_rfl⟩
noncomputable def F9 : FFn := cF LV 0 [0] Tryz.f9
noncomputable def G9 (E : Env) : ZFn := ⟨11, [0], fun cy Y fuel =>
  (zSeq (zReg fun k => (zV 0 (vMv (.k (.sl 0 [] true)))) k)
  (zSeq (zReg fun k => (zStep E (cy Y) ⟨.build 81 [(0, (.k (.int .i64 1)))], .push, none, false, 0, none⟩) ((zStep E (cy Y) ⟨.build 83 [(0, (.k (.str [109]))), (1, (.k (.int .i64 1))), (2, (.l 0))], .push, none, false, 1, none⟩) ((zStep E (cy Y) ⟨.build 81 [(0, (.k (.int .i64 3)))], .push, none, false, 2, none⟩) ((zStep E (cy Y) ⟨.build 83 [(0, (.k (.str [115]))), (1, (.k (.int .i64 1))), (2, (.l 0))], .push, none, false, 3, none⟩) ((zStep E (cy Y) ⟨.build 81 [(0, (.k (.int .i64 6)))], .push, none, false, 4, none⟩) ((zStep E (cy Y) ⟨.build 83 [(0, (.k (.str [108]))), (1, (.k (.int .i64 2))), (2, (.l 0))], .push, none, false, 5, none⟩) ((zStep E (cy Y) ⟨.build 81 [(0, (.k (.int .i64 3)))], .push, none, false, 6, none⟩) ((zCall (cy Y) 35 [(.l 0)] .push) ((zStep E (cy Y) ⟨.build 83 [(0, (.k (.str [99]))), (1, (.k (.int .i64 3))), (2, (.l 0))], .push, none, false, 8, none⟩) ((zStep E (cy Y) ⟨.buildSlice 31 4 [(0, (.l 7)), (1, (.l 5)), (2, (.l 3)), (3, (.l 0))], .push, none, false, 9, (some 1)⟩) ((zV 0 (vMv (.l 0))) k)))))))))))
  zRet)), [.tmp (.v 0)]⟩
theorem G9_ok (fn : Nat → Option Func) (pu : Nat → Bool) (pr : Nat → List AV → Option (Heap → Option (Eff × Acc))) : ZOk ⟨Tryz.tyT, fn, pu, pr⟩ npT F9 (G9 ⟨Tryz.tyT, fn, pu, pr⟩) := ⟨by kernel_rfl, by kernel_rfl, by kernel_rfl, fun cy Y k => by kernel_rfl⟩
noncomputable def F10 : FFn := cF LV 0 [1, 3, 0, 21] Tryz.f10
noncomputable def G10 (E : Env) : ZFn := ⟨56, [1, 3, 0, 21], fun cy Y fuel =>
  (zSeq (zReg fun k => (zStep E (cy Y) ⟨.box 42 (.v 0), (.var 1), none, false, 0, (some 0)⟩) k)
  (zSeq (zSeq (zDreg 1 fun n0 k => (zPD (vFieldAddr 2 (.v 1))) ((zLD B3 1 1 false (.l 0)) ((zPD (vNilCheck (.v 2))) ((zPD (vFieldAddr 0 (.l 0))) ((zLD B3 5 1 false (.l 0)) ((zPD (vInt E fNeq .neq 3 false false (.l 3) (.l 0))) ((zGD (.l 0) false .push (zPD (vMv (.v 2)))) ((zGD (.l 1) false .push (zPD (vNilCheck (.l 0)))) ((zGD (.l 2) false .push (zPD (vFieldAddr 1 (.l 0)))) ((zGD (.l 3) false .push (zLD B3 11 1 false (.l 0))) ((zGD (.l 4) false .push (zLD B3 12 15 true (.v 1))) ((zGD (.l 5) false .push (zCallD (cy Y) B3 13 36 [(.l 1), (.l 0)] .push)) ((zGD (.l 6) false .push (zPD (vNot (.l 0)))) ((zPD (vPick (.l 7) (.k (.bool true)) (.l 0))) k))))))))))))))
  (zCond (.l 0) zRet zSkip))
  (zSeq (zReg fun k => (zP (vFieldAddr 0 (.v 1))) ((zDstW (.var 3) (wLoad 1 false (.l 0))) k))
  (zBlock 0 (zSeq (zReg fun k => (zP (vInt E fEql .eql 3 false true (.v 3) (.k (.int .i64 1)))) ((zP (vMv (.l 0))) k))
  (zCond (.l 0) (zDreg 2 fun n0 k => (zLD B4 1 15 true (.v 1)) ((zLD B4 3 15 true (.v 1)) ((zCallD (cy Y) B4 4 38 [(.v 2), (.l 0)] .push) ((zStepD E (cy Y) B4 n0 ⟨.build 42 [(0, (.k (.int .i64 2))), (4, (.l 0))], .push, none, false, 5, none⟩) ((zCallD (cy Y) B4 6 37 [(.v 2), (.l 3), (.l 0)] .push) k))))) (zSeq (zReg fun k => (zP (vInt E fEql .eql 3 false true (.v 3) (.k (.int .i64 3)))) ((zP (vMv (.l 0))) k))
  (zCond (.l 0) (zReg fun k => (zL 15 true (.v 1)) ((zCall (cy Y) 39 [(.v 2), (.l 0)] .push) k)) (zSeq (zReg fun k => (zP (vInt E fEql .eql 3 false true (.v 3) (.k (.int .i64 9)))) ((zP (vMv (.l 0))) k))
  (zCond (.l 0) (zReg fun k => (zP (vFieldAddr 13 (.v 1))) ((zL 2 true (.l 0)) ((zCall (cy Y) 40 [(.v 2), (.l 0)] .push) k))) (zSeq (zReg fun k => (zP (vInt E fEql .eql 3 false true (.v 3) (.k (.int .i64 10)))) ((zP (vMv (.l 0))) k))
  (zCond (.l 0) (zDreg 2 fun n0 k => (zLD B5 1 15 true (.v 1)) ((zCallD (cy Y) B5 3 26 [(.v 2)] .push) ((zStepD E (cy Y) B5 n0 ⟨.build 42 [(0, (.k (.int .i64 9))), (9, (.l 0))], .push, none, false, 4, none⟩) ((zCallD (cy Y) B5 5 37 [(.v 2), (.l 2), (.l 0)] .push) k)))) (zSeq (zReg fun k => (zP (vFieldAddr 1 (.v 1))) ((zL 1 false (.l 0)) ((zCall (cy Y) 41 [(.l 0)] .push) k)))
  (zCond (.l 0) (zReg fun k => (zL 15 true (.v 1)) ((zCall (cy Y) 42 [(.v 2), (.l 0)] .push) k)) zSkip)))))))))))))), []⟩
theorem G10_ok (fn : Nat → Option Func) (pu : Nat → Bool) (pr : Nat → List AV → Option (Heap → Option (Eff × Acc))) : ZOk ⟨Tryz.tyT, fn, pu, pr⟩ npT F10 (G10 ⟨Tryz.tyT, fn, pu, pr⟩) := ⟨by kernel_rfl, by kernel_rfl, by kernel_rfl, fun cy Y k => by kernel_rfl⟩
noncomputable def F11 : FFn := cF LV 0 [0, 3, 2] Tryz.f11
noncomputable def G11 (E : Env) : ZFn := ⟨17, [0, 3, 2], fun cy Y fuel =>
  (zSeq (zReg fun k => (zV 2 (vMv (.k (.sl 0 [] true)))) k)
  (zSeq (zReg fun k => (zP (vNilCheck (.v 0))) ((zP (vFieldAddr 2 (.l 0))) ((zL 1 false (.l 0)) ((zCall (cy Y) 43 [(.l 0)] .push) k))))
  (zSeq (zReg fun k => (zP (vNilCheck (.v 0))) ((zP (vFieldAddr 10 (.l 0))) ((zL 1 false (.l 0)) ((zV 1 (vMv (.l 0))) k))))
  (zSeq (zReg fun k => (zP (vNilCheck (.v 0))) ((zP (vFieldAddr 10 (.l 0))) ((zStep E (cy Y) ⟨.store 44 (.l 0) (.k (.sl 0 [] true)), .none, none, false, 3, none⟩) k)))
  (zSeq (zReg fun k => (zV 2 (vMv (.v 1))) k)
  zRet))))), [.tmp (.v 2)]⟩
theorem G11_ok (fn : Nat → Option Func) (pu : Nat → Bool) (pr : Nat → List AV → Option (Heap → Option (Eff × Acc))) : ZOk ⟨Tryz.tyT, fn, pu, pr⟩ npT F11 (G11 ⟨Tryz.tyT, fn, pu, pr⟩) := ⟨by kernel_rfl, by kernel_rfl, by kernel_rfl, fun cy Y k => by kernel_rfl⟩
noncomputable def F13 : FFn := cF LV 0 [0, 2] Tryz.f13
noncomputable def G13 (E : Env) : ZFn := ⟨7, [0, 2], fun cy Y fuel =>
  (zSeq (zReg fun k => (zV 1 (vMv (.k .nilptr))) k)
  (zSeq (zReg fun k => (zP (vNilCheck (.v 0))) ((zP (vFieldAddr 2 (.l 0))) ((zL 1 false (.l 0)) ((zV 1 (vMv (.l 0))) k))))
  zRet)), [.tmp (.v 1)]⟩
theorem G13_ok (fn : Nat → Option Func) (pu : Nat → Bool) (pr : Nat → List AV → Option (Heap → Option (Eff × Acc))) : ZOk ⟨Tryz.tyT, fn, pu, pr⟩ npT F13 (G13 ⟨Tryz.tyT, fn, pu, pr⟩) := ⟨by kernel_rfl, by kernel_rfl, by kernel_rfl, fun cy Y k => by kernel_rfl⟩
noncomputable def F14 : FFn := cF LV 0 [0, 1, 4] Tryz.f14
noncomputable def G14 (E : Env) : ZFn := ⟨11, [0, 1, 4], fun cy Y fuel =>
  (zSeq (zReg fun k => (zStep E (cy Y) ⟨.alloc 38, (.var 2), none, false, 0, (some 0)⟩) k)
  (zSeq (zReg fun k => (zP (vNilCheck (.v 0))) ((zP (vFieldAddr 1 (.l 0))) ((zL 1 false (.l 0)) ((zCall (cy Y) 46 [(.l 0), (.v 1)] .push) ((zStep E (cy Y) ⟨.store 38 (.v 2) (.l 0), .none, none, false, 6, none⟩) k)))))
  zRet)), [.cell (.v 2) 38]⟩
theorem G14_ok (fn : Nat → Option Func) (pu : Nat → Bool) (pr : Nat → List AV → Option (Heap → Option (Eff × Acc))) : ZOk ⟨Tryz.tyT, fn, pu, pr⟩ npT F14 (G14 ⟨Tryz.tyT, fn, pu, pr⟩) := ⟨by kernel_rfl, by kernel_rfl, by kernel_rfl, fun cy Y k => by kernel_rfl⟩
noncomputable def F24 : FFn := cF LV 0 [0, 1, 15, 2] Tryz.f24
noncomputable def G24 (E : Env) : ZFn := ⟨45, [0, 1, 15, 2], fun cy Y fuel =>
  (zSeq (zReg fun k => (zStep E (cy Y) ⟨.box 29 (.v 0), (.var 1), none, false, 0, (some 0)⟩) k)
  (zSeq (zReg fun k => (zL 1 false (.v 1)) ((zP (vNilCheck (.l 0))) ((zP (vFieldAddr 9 (.l 0))) ((zL 1 false (.l 0)) ((zP (vInt E fAdd .add 3 false true (.l 0) (.k (.int .i64 1)))) ((zP (vNilCheck (.l 4))) ((zP (vFieldAddr 9 (.l 0))) ((zStep E (cy Y) ⟨.store 3 (.l 0) (.l 2), .none, none, false, 7, none⟩) k))))))))
  (zSeq (zReg fun k => (zL 1 false (.v 1)) ((zCall (cy Y) 62 [(.l 0)] .push) k))
  (zSeq (zReg fun k => (zL 1 false (.v 1)) ((zCall (cy Y) 63 [(.l 0)] .push) k))
  (zSeq (zSeq (zReg fun k => (zV 2 (vMv (.k (.int .i64 0)))) k)
  (zBlock 0 (zLoop fuel (zSeq (zReg fun k => (zP (vInt E fLss .lss 3 false true (.v 2) (.k (.int .i64 4)))) k)
  (zSeq (zCond (.l 0) zSkip (zExit 0))
  (zSeq (zBlock 1 (zSeq (zReg fun k => (zV 3 (vMv (.v 2))) k)
  (zSeq (zReg fun k => (zL 1 false (.v 1)) ((zP (vNilCheck (.l 0))) ((zP (vFieldAddr 0 (.l 0))) ((zL 1 false (.l 0)) ((zP (vInt E fNeq .neq 3 false false (.v 3) (.l 0))) k)))))
  (zCond (.l 0) (zDreg 2 fun n0 k => (zLD B6 0 1 false (.v 1)) ((zLD B6 2 1 false (.v 1)) ((zCallD (cy Y) B6 3 26 [(.l 0)] .push) ((zStepD E (cy Y) B6 n0 ⟨.build 42 [(0, (.k (.int .i64 9))), (2, (.v 3)), (9, (.l 0))], .push, none, false, 4, none⟩) ((zCallD (cy Y) B6 5 64 [(.l 3), (.l 0)] .push) k))))) zSkip))))
  (zReg fun k => (zP (vInt E fAdd .add 3 false true (.v 2) (.k (.int .i64 1)))) ((zV 2 (vMv (.l 0))) k))))))))
  (zSeq (zSeq (zReg fun k => (zL 1 false (.v 1)) ((zP (vNilCheck (.l 0))) ((zP (vFieldAddr 9 (.l 0))) ((zL 1 false (.l 0)) ((zP (vInt E (fGen .rem) .rem 3 false true (.l 0) (.k (.int .i64 4)))) ((zP (vInt E fEql .eql 3 false true (.l 0) (.k (.int .i64 0)))) k))))))
  (zCond (.l 0) (zSeq (zReg fun k => (zL 1 false (.v 1)) ((zCall (cy Y) 65 [(.l 0)] .push) k))
  (zBlock 2 (zRange cy Y (.l 0) 0 [none, (some (.v 1)), none] [none, (some (.v 1)), none, none, none, none, none, none, none, none, none, none, none, none, none, none, none, none, none, none, none, none, none, none, none, none, none, none, none, none, none, none, none, none, none, none, none, none, none, none, none, none, none, none, none] [39] (codeAt [1, 1, 1, 1, 1, 0, 1, 0, 1, 0, 0] (bodyOf Tryz.f24)) (codeAt [1, 1, 1, 1, 1, 0, 1, 0, 1, 0, 1] (bodyOf Tryz.f24))))) zSkip))
  (zReg fun k => (zL 1 false (.v 1)) ((zCall (cy Y) 67 [(.l 0)] .push) k)))))))), []⟩
theorem G24_ok (fn : Nat → Option Func) (pu : Nat → Bool) (pr : Nat → List AV → Option (Heap → Option (Eff × Acc))) : ZOk ⟨Tryz.tyT, fn, pu, pr⟩ npT F24 (G24 ⟨Tryz.tyT, fn, pu, pr⟩) := ⟨by kernel_rfl, by kernel_rfl, by kernel_rfl, fun cy Y k => by kernel_rfl⟩
noncomputable def F25 : FFn := cF LV 0 [0, 5, 2, 1, 4] Tryz.f25
noncomputable def G25 (E : Env) : ZFn := ⟨28, [0, 5, 2, 1, 4], fun cy Y fuel =>
  (zSeq (zReg fun k => (zStep E (cy Y) ⟨.box 26 (.v 0), (.var 2), none, false, 0, (some 0)⟩) ((zV 4 (vMv (.k (.int .i64 0)))) k))
  (zSeq (zSeq (zReg fun k => (zV 1 (vMv (.k (.int .i64 0)))) k)
  (zBlock 0 (zLoop fuel (zSeq (zSeq (zReg fun k => (zP (vFieldAddr 1 (.v 2))) ((zL 1 false (.l 0)) ((zP (vLenL (.l 0))) ((zP (vInt E fLss .lss 3 false false (.v 1) (.l 0))) k))))
  (zCond (.l 0) zSkip (zExit 0)))
  (zSeq (zBlock 1 (zSeq (zReg fun k => (zP (vFieldAddr 1 (.v 2))) ((zL 1 false (.l 0)) ((zP (vIndexAddr 3 (.l 0) (.v 1))) ((zP (vFieldAddr 0 (.l 0))) ((zL 1 false (.l 0)) ((zP (vInt E fEql .eql 9 false false (.l 0) (.v 3))) k))))))
  (zCond (.l 0) (zSeq (zReg fun k => (zP (vFieldAddr 1 (.v 2))) ((zL 1 false (.l 0)) ((zP (vIndexAddr 3 (.l 0) (.v 1))) ((zP (vFieldAddr 2 (.l 0))) ((zL 1 false (.l 0)) ((zP (vConv .i64 (.l 0))) ((zV 4 (vMv (.l 0))) k)))))))
  zRet) zSkip)))
  (zReg fun k => (zP (vMv (.v 1))) ((zP (vInt E fAdd .add 3 false true (.l 0) (.k (.int .i64 1)))) ((zV 1 (vMv (.l 0))) k))))))))
  (zSeq (zReg fun k => (zV 4 (vMv (.k (.int .i64 2)))) k)
  zRet))), [.tmp (.v 4)]⟩
theorem G25_ok (fn : Nat → Option Func) (pu : Nat → Bool) (pr : Nat → List AV → Option (Heap → Option (Eff × Acc))) : ZOk ⟨Tryz.tyT, fn, pu, pr⟩ npT F25 (G25 ⟨Tryz.tyT, fn, pu, pr⟩) := ⟨by kernel_rfl, by kernel_rfl, by kernel_rfl, fun cy Y k => by kernel_rfl⟩
noncomputable def F26 : FFn := cF LV 0 [0, 2] Tryz.f26
noncomputable def G26 (E : Env) : ZFn := ⟨16, [0, 2], fun cy Y fuel =>
  (zSeq (zReg fun k => (zStep E (cy Y) ⟨.alloc 26, (.var 1), none, false, 0, (some 0)⟩) k)
  (zSeq (zDreg 2 fun n0 k => (zPD (vNilCheck (.v 0))) ((zPD (vFieldAddr 3 (.l 0))) ((zPD (vFieldAddr 0 (.l 0))) ((zLD B7 4 1 false (.l 0)) ((zStepD E (cy Y) B7 n0 ⟨.call 68 [(.l 0)], .push, none, false, 5, (some 0)⟩) ((zPD (vNilCheck (.v 0))) ((zPD (vFieldAddr 3 (.l 0))) ((zPD (vFieldAddr 1 (.l 0))) ((zLD B7 10 1 false (.l 0)) ((zStepD E (cy Y) B7 n0 ⟨.call 69 [(.l 0)], .push, none, false, 11, (some 1)⟩) ((zStepD E (cy Y) B7 n0 ⟨.build 26 [(0, (.l 5)), (1, (.l 0))], .push, none, false, 12, none⟩) ((zStepD E (cy Y) B7 n0 ⟨.store 26 (.v 1) (.l 0), .none, none, false, 13, none⟩) k))))))))))))
  zRet)), [.cell (.v 1) 26]⟩
theorem G26_ok (fn : Nat → Option Func) (pu : Nat → Bool) (pr : Nat → List AV → Option (Heap → Option (Eff × Acc))) : ZOk ⟨Tryz.tyT, fn, pu, pr⟩ npT F26 (G26 ⟨Tryz.tyT, fn, pu, pr⟩) := ⟨by kernel_rfl, by kernel_rfl, by kernel_rfl, fun cy Y k => by kernel_rfl⟩
noncomputable def F27 : FFn := cF LV 0 [0, 2] Tryz.f27
noncomputable def G27 (E : Env) : ZFn := ⟨7, [0, 2], fun cy Y fuel =>
  (zSeq (zReg fun k => (zV 1 (vMv (.k .nilptr))) k)
  (zSeq (zReg fun k => (zP (vNilCheck (.v 0))) ((zP (vFieldAddr 1 (.l 0))) ((zL 1 false (.l 0)) ((zV 1 (vMv (.l 0))) k))))
  zRet)), [.tmp (.v 1)]⟩
theorem G27_ok (fn : Nat → Option Func) (pu : Nat → Bool) (pr : Nat → List AV → Option (Heap → Option (Eff × Acc))) : ZOk ⟨Tryz.tyT, fn, pu, pr⟩ npT F27 (G27 ⟨Tryz.tyT, fn, pu, pr⟩) := ⟨by kernel_rfl, by kernel_rfl, by kernel_rfl, fun cy Y k => by kernel_rfl⟩
noncomputable def F28 : FFn := cF LV 0 [0, 2] Tryz.f28
noncomputable def G28 (E : Env) : ZFn := ⟨8, [0, 2], fun cy Y fuel =>
  (zSeq (zReg fun k => (zV 1 (vMv (.k (.int .i64 0)))) k)
  (zSeq (zReg fun k => (zP (vNilCheck (.v 0))) ((zP (vFieldAddr 10 (.l 0))) ((zL 1 false (.l 0)) ((zP (vLenL (.l 0))) ((zV 1 (vMv (.l 0))) k)))))
  zRet)), [.tmp (.v 1)]⟩
theorem G28_ok (fn : Nat → Option Func) (pu : Nat → Bool) (pr : Nat → List AV → Option (Heap → Option (Eff × Acc))) : ZOk ⟨Tryz.tyT, fn, pu, pr⟩ npT F28 (G28 ⟨Tryz.tyT, fn, pu, pr⟩) := ⟨by kernel_rfl, by kernel_rfl, by kernel_rfl, fun cy Y k => by kernel_rfl⟩
noncomputable def F29 : FFn := cF LV 0 [0, 1] Tryz.f29
noncomputable def G29 (E : Env) : ZFn := ⟨21, [0, 1], fun cy Y fuel =>
  (zSeq (zReg fun k => (zP (vNilCheck (.v 0))) ((zP (vFieldAddr 2 (.l 0))) ((zL 1 false (.l 0)) ((zCall (cy Y) 70 [(.l 0), (.v 1)] .push) k))))
  (zReg fun k => (zStep E (cy Y) ⟨.mkMap 88, .push, none, false, 3, (some 0)⟩) ((zCall (cy Y) 34 [] .push) ((zP (vNilCheck (.v 0))) ((zP (vFieldAddr 10 (.l 0))) ((zStep E (cy Y) ⟨.store 44 (.l 0) (.k (.sl 0 [] true)), .none, none, false, 7, none⟩) ((zP (vNilCheck (.v 0))) ((zP (vFieldAddr 6 (.l 0))) ((zStep E (cy Y) ⟨.store 88 (.l 0) (.l 5), .none, none, false, 10, none⟩) ((zP (vNilCheck (.v 0))) ((zP (vFieldAddr 5 (.l 0))) ((zStep E (cy Y) ⟨.store 85 (.l 0) (.l 6), .none, none, false, 13, none⟩) k)))))))))))), []⟩
theorem G29_ok (fn : Nat → Option Func) (pu : Nat → Bool) (pr : Nat → List AV → Option (Heap → Option (Eff × Acc))) : ZOk ⟨Tryz.tyT, fn, pu, pr⟩ npT F29 (G29 ⟨Tryz.tyT, fn, pu, pr⟩) := ⟨by kernel_rfl, by kernel_rfl, by kernel_rfl, fun cy Y k => by kernel_rfl⟩
noncomputable def F30 : FFn := cF LV 0 [0, 2] Tryz.f30
noncomputable def G30 (E : Env) : ZFn := ⟨8, [0, 2], fun cy Y fuel =>
  (zSeq (zReg fun k => (zV 1 (vMv (.k .nilIface))) k)
  (zSeq (zReg fun k => (zP (vNilCheck (.v 0))) ((zP (vFieldAddr 2 (.l 0))) ((zL 1 false (.l 0)) ((zCall (cy Y) 71 [(.l 0)] .push) ((zV 1 (vMv (.l 0))) k)))))
  zRet)), [.tmp (.v 1)]⟩
theorem G30_ok (fn : Nat → Option Func) (pu : Nat → Bool) (pr : Nat → List AV → Option (Heap → Option (Eff × Acc))) : ZOk ⟨Tryz.tyT, fn, pu, pr⟩ npT F30 (G30 ⟨Tryz.tyT, fn, pu, pr⟩) := ⟨by kernel_rfl, by kernel_rfl, by kernel_rfl, fun cy Y k => by kernel_rfl⟩
noncomputable def F31 : FFn := cF LV 0 [0, 1, 2, 3, 5, 6, 4] Tryz.f31
noncomputable def G31 (E : Env) : ZFn := ⟨59, [0, 1, 2, 3, 5, 6, 4], fun cy Y fuel =>
  (zSeq (zReg fun k => (zStep E (cy Y) ⟨.box 26 (.v 0), (.var 2), none, false, 0, (some 0)⟩) ((zStep E (cy Y) ⟨.box 26 (.v 1), (.var 3), none, false, 1, (some 1)⟩) ((zV 6 (vMv (.k (.bool false)))) k)))
  (zSeq (zSeq (zReg fun k => (zP (vFieldAddr 0 (.v 2))) ((zL 1 false (.l 0)) ((zP (vLenL (.l 0))) ((zP (vFieldAddr 0 (.v 3))) ((zL 1 false (.l 0)) ((zP (vLenL (.l 0))) ((zP (vInt E fNeq .neq 3 false false (.l 3) (.l 0))) ((zG (.l 0) false .push (zP (vFieldAddr 1 (.v 2)))) ((zG (.l 1) false .push (zL 1 false (.l 0))) ((zG (.l 2) false .push (zP (vLenL (.l 0)))) ((zG (.l 3) false .push (zP (vFieldAddr 1 (.v 3)))) ((zG (.l 4) false .push (zL 1 false (.l 0))) ((zG (.l 5) false .push (zP (vLenL (.l 0)))) ((zG (.l 6) false .push (zP (vInt E fNeq .neq 3 false false (.l 3) (.l 0)))) ((zP (vPick (.l 7) (.k (.bool true)) (.l 0))) k)))))))))))))))
  (zCond (.l 0) (zSeq (zReg fun k => (zV 6 (vMv (.k (.bool false)))) k)
  zRet) zSkip))
  (zSeq (zSeq (zReg fun k => (zV 4 (vMv (.k (.int .i64 0)))) k)
  (zBlock 0 (zLoop fuel (zSeq (zSeq (zReg fun k => (zP (vFieldAddr 0 (.v 2))) ((zL 1 false (.l 0)) ((zP (vLenL (.l 0))) ((zP (vInt E fLss .lss 3 false false (.v 4) (.l 0))) k))))
  (zCond (.l 0) zSkip (zExit 0)))
  (zSeq (zBlock 1 (zSeq (zDreg 0 fun n0 k => (zPD (vFieldAddr 0 (.v 2))) ((zLD B8 1 1 false (.l 0)) ((zPD (vIndexAddr 2 (.l 0) (.v 4))) ((zLD B8 4 2 true (.l 0)) ((zPD (vFieldAddr 0 (.v 3))) ((zLD B8 6 1 false (.l 0)) ((zPD (vIndexAddr 2 (.l 0) (.v 4))) ((zLD B8 9 2 true (.l 0)) ((zPD (vInt E fNeq .neq 77 false false (.l 4) (.l 0))) k)))))))))
  (zCond (.l 0) (zSeq (zReg fun k => (zV 6 (vMv (.k (.bool false)))) k)
  zRet) zSkip)))
  (zReg fun k => (zP (vMv (.v 4))) ((zP (vInt E fAdd .add 3 false true (.l 0) (.k (.int .i64 1)))) ((zV 4 (vMv (.l 0))) k))))))))
  (zSeq (zSeq (zReg fun k => (zV 5 (vMv (.k (.int .i64 0)))) k)
  (zBlock 2 (zLoop fuel (zSeq (zSeq (zReg fun k => (zP (vFieldAddr 1 (.v 2))) ((zL 1 false (.l 0)) ((zP (vLenL (.l 0))) ((zP (vInt E fLss .lss 3 false false (.v 5) (.l 0))) k))))
  (zCond (.l 0) zSkip (zExit 2)))
  (zSeq (zBlock 3 (zSeq (zDreg 0 fun n0 k => (zPD (vFieldAddr 1 (.v 2))) ((zLD B8 1 1 false (.l 0)) ((zPD (vIndexAddr 3 (.l 0) (.v 5))) ((zLD B8 4 3 true (.l 0)) ((zPD (vFieldAddr 1 (.v 3))) ((zLD B8 6 1 false (.l 0)) ((zPD (vIndexAddr 3 (.l 0) (.v 5))) ((zLD B8 9 3 true (.l 0)) ((zPD (vInt E fNeq .neq 131 false false (.l 4) (.l 0))) k)))))))))
  (zCond (.l 0) (zSeq (zReg fun k => (zV 6 (vMv (.k (.bool false)))) k)
  zRet) zSkip)))
  (zReg fun k => (zP (vMv (.v 5))) ((zP (vInt E fAdd .add 3 false true (.l 0) (.k (.int .i64 1)))) ((zV 5 (vMv (.l 0))) k))))))))
  (zSeq (zReg fun k => (zV 6 (vMv (.k (.bool true)))) k)
  zRet))))), [.tmp (.v 6)]⟩
theorem G31_ok (fn : Nat → Option Func) (pu : Nat → Bool) (pr : Nat → List AV → Option (Heap → Option (Eff × Acc))) : ZOk ⟨Tryz.tyT, fn, pu, pr⟩ npT F31 (G31 ⟨Tryz.tyT, fn, pu, pr⟩) := ⟨by kernel_rfl, by kernel_rfl, by kernel_rfl, fun cy Y k => by kernel_rfl⟩
noncomputable def F33 : FFn := cF LV 0 [0, 2] Tryz.f33
noncomputable def G33 (E : Env) : ZFn := ⟨10, [0, 2], fun cy Y fuel =>
  (zSeq (zReg fun k => (zV 1 (vMv (.k .nilptr))) k)
  (zSeq (zReg fun k => (zStep E (cy Y) ⟨.call 32 [(.v 0)], .push, none, false, 1, (some 0)⟩) ((zCall (cy Y) 72 [(.v 0)] .push) ((zCall (cy Y) 73 [] .push) ((zStep E (cy Y) ⟨.build 102 [(0, (.l 2)), (1, (.l 1)), (2, (.l 0))], .push, none, false, 5, none⟩) ((zStep E (cy Y) ⟨.box 102 (.l 0), .push, none, false, 6, (some 3)⟩) ((zV 1 (vMv (.l 0))) k))))))
  zRet)), [.tmp (.v 1)]⟩
theorem G33_ok (fn : Nat → Option Func) (pu : Nat → Bool) (pr : Nat → List AV → Option (Heap → Option (Eff × Acc))) : ZOk ⟨Tryz.tyT, fn, pu, pr⟩ npT F33 (G33 ⟨Tryz.tyT, fn, pu, pr⟩) := ⟨by kernel_rfl, by kernel_rfl, by kernel_rfl, fun cy Y k => by kernel_rfl⟩
noncomputable def F34 : FFn := cF LV 0 [0] Tryz.f34
noncomputable def G34 (E : Env) : ZFn := ⟨5, [0], fun cy Y fuel =>
  (zSeq (zReg fun k => (zV 0 (vMv (.k .nilptr))) k)
  (zSeq (zReg fun k => (zStep E (cy Y) ⟨.mkMap 136, .push, none, false, 0, (some 0)⟩) ((zStep E (cy Y) ⟨.build 138 [(0, (.l 0))], .push, none, false, 1, none⟩) ((zStep E (cy Y) ⟨.build 140 [(0, (.l 0))], .push, none, false, 2, none⟩) ((zStep E (cy Y) ⟨.box 140 (.l 0), .push, none, false, 3, (some 1)⟩) ((zV 0 (vMv (.l 0))) k)))))
  zRet)), [.tmp (.v 0)]⟩
theorem G34_ok (fn : Nat → Option Func) (pu : Nat → Bool) (pr : Nat → List AV → Option (Heap → Option (Eff × Acc))) : ZOk ⟨Tryz.tyT, fn, pu, pr⟩ npT F34 (G34 ⟨Tryz.tyT, fn, pu, pr⟩) := ⟨by kernel_rfl, by kernel_rfl, by kernel_rfl, fun cy Y k => by kernel_rfl⟩
noncomputable def F35 : FFn := cF LV 0 [0, 3, 1, 2] Tryz.f35
noncomputable def G35 (E : Env) : ZFn := ⟨13, [0, 3, 1, 2], fun cy Y fuel =>
  (zSeq (zReg fun k => (zStep E (cy Y) ⟨.box 81 (.v 0), (.var 2), none, false, 0, (some 0)⟩) ((zStep E (cy Y) ⟨.alloc 81, (.var 3), none, false, 1, (some 1)⟩) k))
  (zSeq (zReg fun k => (zStep E (cy Y) ⟨.build 81 [(0, (.k (.int .i64 7)))], .push, none, false, 0, none⟩) ((zStep E (cy Y) ⟨.buildSlice 79 1 [(0, (.l 0))], .push, none, false, 1, (some 0)⟩) ((zStep E (cy Y) ⟨.build 81 [(0, (.k (.int .i64 4))), (1, (.l 0))], .push, none, false, 2, none⟩) ((zStep E (cy Y) ⟨.alloc 81, (.var 1), none, false, 3, (some 1)⟩) ((zStep E (cy Y) ⟨.store 81 (.v 1) (.l 0), .none, none, false, 4, none⟩) k)))))
  (zSeq (zReg fun k => (zL 2 true (.v 1)) ((zL 2 true (.v 2)) ((zStep E (cy Y) ⟨.buildSlice 79 2 [(0, (.l 1)), (1, (.l 0))], .push, none, false, 2, (some 0)⟩) ((zStep E (cy Y) ⟨.build 81 [(0, (.k (.int .i64 5))), (1, (.l 0))], .push, none, false, 3, none⟩) ((zStep E (cy Y) ⟨.buildSlice 79 1 [(0, (.l 0))], .push, none, false, 4, (some 1)⟩) ((zStep E (cy Y) ⟨.build 81 [(0, (.k (.int .i64 8))), (1, (.l 0))], .push, none, false, 5, none⟩) ((zStep E (cy Y) ⟨.store 81 (.v 3) (.l 0), .none, none, false, 6, none⟩) k)))))))
  zRet))), [.cell (.v 3) 81]⟩
theorem G35_ok (fn : Nat → Option Func) (pu : Nat → Bool) (pr : Nat → List AV → Option (Heap → Option (Eff × Acc))) : ZOk ⟨Tryz.tyT, fn, pu, pr⟩ npT F35 (G35 ⟨Tryz.tyT, fn, pu, pr⟩) := ⟨by kernel_rfl, by kernel_rfl, by kernel_rfl, fun cy Y k => by kernel_rfl⟩
noncomputable def F36 : FFn := cF LV 0 [1, 3, 0, 5, 7, 4] Tryz.f36
noncomputable def G36 (E : Env) : ZFn := ⟨96, [1, 3, 0, 5, 7, 4], fun cy Y fuel =>
  (zSeq (zReg fun k => (zStep E (cy Y) ⟨.box 42 (.v 0), (.var 1), none, false, 0, (some 0)⟩) ((zV 5 (vMv (.k (.bool false)))) k))
  (zSeq (zReg fun k => (zL 15 true (.v 1)) ((zCall (cy Y) 74 [(.l 0)] .push) ((zStep E (cy Y) ⟨.alloc 142, (.var 3), none, false, 2, (some 1)⟩) ((zStep E (cy Y) ⟨.store 142 (.v 3) (.l 0), .none, none, false, 3, none⟩) k))))
  (zSeq (zSeq (zReg fun k => (zStep E (cy Y) ⟨.call 75 [(.v 2)], .push, none, false, 1, (some 0)⟩) ((zP (vNot (.l 0))) ((zG (.l 0) false .push (zP (vFieldAddr 0 (.v 1)))) ((zG (.l 1) false .push (zL 1 false (.l 0))) ((zG (.l 2) false .push (zP (vInt E fLss .lss 3 false true (.l 0) (.k (.int .i64 1))))) ((zP (vPick (.l 3) (.k (.bool true)) (.l 0))) ((zG (.l 0) false .push (zP (vFieldAddr 0 (.v 1)))) ((zG (.l 1) false .push (zL 1 false (.l 0))) ((zG (.l 2) false .push (zP (vInt E fGtr .gtr 3 false true (.l 0) (.k (.int .i64 10))))) ((zP (vPick (.l 3) (.k (.bool true)) (.l 0))) ((zG (.l 0) false .push (zP (vFieldAddr 1 (.v 1)))) ((zG (.l 1) false .push (zL 1 false (.l 0))) ((zG (.l 2) false .push (zStep E (cy Y) ⟨.call 76 [(.l 0)], .push, none, false, 16, (some 1)⟩)) ((zG (.l 3) false .push (zP (vNot (.l 0)))) ((zP (vPick (.l 4) (.k (.bool true)) (.l 0))) ((zG (.l 0) false .push (zP (vFieldAddr 2 (.v 1)))) ((zG (.l 1) false .push (zL 1 false (.l 0))) ((zG (.l 2) false .push (zStep E (cy Y) ⟨.call 76 [(.l 0)], .push, none, false, 22, (some 2)⟩)) ((zG (.l 3) false .push (zP (vNot (.l 0)))) ((zP (vPick (.l 4) (.k (.bool true)) (.l 0))) ((zG (.l 0) false .push (zP (vFieldAddr 4 (.v 1)))) ((zG (.l 1) false .push (zL 1 false (.l 0))) ((zG (.l 2) false .push (zP (vInt E fLss .lss 3 false true (.l 0) (.k (.int .i64 0))))) ((zP (vPick (.l 3) (.k (.bool true)) (.l 0))) ((zG (.l 0) false .push (zP (vFieldAddr 4 (.v 1)))) ((zG (.l 1) false .push (zL 1 false (.l 0))) ((zG (.l 2) false .push (zP (vInt E fGtr .gtr 3 false true (.l 0) (.k (.int .i64 100))))) ((zP (vPick (.l 3) (.k (.bool true)) (.l 0))) ((zG (.l 0) false .push (zL 5 true (.v 3))) ((zG (.l 1) false .push (zL 15 true (.v 1))) ((zG (.l 2) false .push (zStep E (cy Y) ⟨.call 77 [(.l 1), (.l 0)], .push, none, false, 38, (some 3)⟩)) ((zG (.l 3) false .push (zP (vNot (.l 0)))) ((zP (vPick (.l 4) (.k (.bool true)) (.l 0))) k)))))))))))))))))))))))))))))))))
  (zCond (.l 0) (zSeq (zReg fun k => (zV 5 (vMv (.k (.bool false)))) k)
  zRet) zSkip))
  (zSeq (zSeq (zReg fun k => (zP (vFieldAddr 5 (.v 1))) ((zL 1 false (.l 0)) ((zStep E (cy Y) ⟨.call 78 [(.v 2), (.l 0)], .push, none, false, 3, (some 0)⟩) ((zP (vExtract 0 (.l 0))) ((zP (vExtract 1 (.l 1))) ((zStep E (cy Y) ⟨.alloc 83, .push, none, false, 7, (some 1)⟩) ((zStep E (cy Y) ⟨.store 83 (.l 0) (.l 2), .none, none, false, 8, none⟩) ((zV 4 (vMv (.l 1))) k))))))))
  (zSeq (zReg fun k => (zP (vFieldAddr 0 (.v 3))) ((zL 1 false (.l 0)) ((zG (.l 0) true .push (zP (vMv (.v 4)))) ((zG (.l 1) true .push (zP (vNot (.l 0)))) ((zP (vPick (.l 2) (.l 0) (.k (.bool false)))) ((zG (.l 0) false .push (zP (vFieldAddr 1 (.v 3)))) ((zG (.l 1) false .push (zL 1 false (.l 0))) ((zG (.l 2) false .push (zP (vMv (.l 0)))) ((zG (.l 0) true .push (zP (vMv (.v 2)))) ((zG (.l 1) true .push (zP (vFieldAddr 5 (.v 1)))) ((zG (.l 2) true .push (zL 1 false (.l 0))) ((zG (.l 3) true .push (zP (vFieldAddr 6 (.v 1)))) ((zG (.l 4) true .push (zL 5 true (.l 0))) ((zG (.l 5) true .push (zCall (cy Y) 79 [(.l 4), (.l 2), (.l 0)] .push)) ((zG (.l 6) true .push (zP (vNot (.l 0)))) ((zG (.l 10) false .push (zP (vPick (.l 7) (.l 0) (.k (.bool false))))) ((zP (vPick (.l 11) (.k (.bool true)) (.l 0))) ((zG (.l 0) false .push (zP (vFieldAddr 13 (.v 1)))) ((zG (.l 1) false .push (zL 2 true (.l 0))) ((zG (.l 2) false .push (zStep E (cy Y) ⟨.call 80 [(.l 0)], .push, none, false, 22, (some 1)⟩)) ((zG (.l 3) false .push (zP (vNot (.l 0)))) ((zP (vPick (.l 4) (.k (.bool true)) (.l 0))) k))))))))))))))))))))))
  (zCond (.l 0) (zSeq (zReg fun k => (zV 5 (vMv (.k (.bool false)))) k)
  zRet) zSkip)))
  (zSeq (zReg fun k => (zP (vFieldAddr 11 (.v 1))) ((zL 1 false (.l 0)) ((zP (vFieldAddr 0 (.v 1))) ((zL 1 false (.l 0)) ((zP (vInt E fEql .eql 3 false true (.l 0) (.k (.int .i64 8)))) ((zStep E (cy Y) ⟨.call 81 [(.v 2), (.l 3), (.l 0)], .push, none, false, 6, (some 0)⟩) ((zG (.l 0) true .push (zP (vMv (.v 2)))) ((zG (.l 1) true .push (zP (vFieldAddr 12 (.v 1)))) ((zG (.l 2) true .push (zL 1 false (.l 0))) ((zG (.l 3) true .push (zStep E (cy Y) ⟨.call 82 [(.l 2), (.l 0), (.k (.clo 83 []))], .push, none, false, 11, (some 1)⟩)) ((zP (vPick (.l 4) (.l 0) (.k (.bool false)))) ((zV 5 (vMv (.l 0))) k))))))))))))
  zRet))))), [.tmp (.v 5)]⟩
theorem G36_ok (fn : Nat → Option Func) (pu : Nat → Bool) (pr : Nat → List AV → Option (Heap → Option (Eff × Acc))) : ZOk ⟨Tryz.tyT, fn, pu, pr⟩ npT F36 (G36 ⟨Tryz.tyT, fn, pu, pr⟩) := ⟨by kernel_rfl, by kernel_rfl, by kernel_rfl, fun cy Y k => by kernel_rfl⟩
noncomputable def F37 : FFn := cF LV 0 [1, 2, 4, 5, 0] Tryz.f37
noncomputable def G37 (E : Env) : ZFn := ⟨18, [1, 2, 4, 5, 0], fun cy Y fuel =>
  (zSeq (zReg fun k => (zStep E (cy Y) ⟨.box 42 (.v 0), (.var 2), none, false, 0, (some 0)⟩) ((zStep E (cy Y) ⟨.box 42 (.v 1), (.var 3), none, false, 1, (some 1)⟩) k))
  (zSeq (zDreg 0 fun n0 k => (zPD (vFieldAddr 1 (.v 2))) ((zLD B9 1 1 false (.l 0)) ((zPD (vFieldAddr 3 (.v 2))) ((zLD B9 3 1 false (.l 0)) ((zPD (vFieldAddr 5 (.v 2))) ((zLD B9 5 1 false (.l 0)) ((zPD (vFieldAddr 2 (.v 3))) ((zStepD E (cy Y) B9 n0 ⟨.store 3 (.l 0) (.l 5), .none, none, false, 7, none⟩) ((zPD (vFieldAddr 3 (.v 3))) ((zStepD E (cy Y) B9 n0 ⟨.store 33 (.l 0) (.l 4), .none, none, false, 9, none⟩) ((zPD (vFieldAddr 5 (.v 3))) ((zStepD E (cy Y) B9 n0 ⟨.store 9 (.l 0) (.l 3), .none, none, false, 11, none⟩) k))))))))))))
  (zReg fun k => (zL 15 true (.v 3)) ((zCall (cy Y) 64 [(.v 4), (.l 0)] .push) k)))), []⟩
theorem G37_ok (fn : Nat → Option Func) (pu : Nat → Bool) (pr : Nat → List AV → Option (Heap → Option (Eff × Acc))) : ZOk ⟨Tryz.tyT, fn, pu, pr⟩ npT F37 (G37 ⟨Tryz.tyT, fn, pu, pr⟩) := ⟨by kernel_rfl, by kernel_rfl, by kernel_rfl, fun cy Y k => by kernel_rfl⟩
noncomputable def F38 : FFn := cF LV 0 [1, 0, 3, 4] Tryz.f38
noncomputable def G38 (E : Env) : ZFn := ⟨22, [1, 0, 3, 4], fun cy Y fuel =>
  (zSeq (zReg fun k => (zStep E (cy Y) ⟨.box 42 (.v 0), (.var 2), none, false, 0, (some 0)⟩) ((zV 3 (vMv (.k (.int .i64 0)))) k))
  (zSeq (zSeq (zDreg 1 fun n0 k => (zPD (vNilCheck (.v 1))) ((zPD (vFieldAddr 0 (.l 0))) ((zLD B10 4 1 false (.l 0)) ((zPD (vFieldAddr 5 (.v 2))) ((zLD B10 6 1 false (.l 0)) ((zCallD (cy Y) B10 7 84 [(.v 1), (.l 2), (.l 0)] .push) ((zPD (vNot (.l 0))) k)))))))
  (zCond (.l 0) (zSeq (zReg fun k => (zV 3 (vMv (.k (.int .i64 21)))) k)
  zRet) zSkip))
  (zSeq (zReg fun k => (zP (vFieldAddr 5 (.v 2))) ((zL 1 false (.l 0)) ((zP (vFieldAddr 6 (.v 2))) ((zL 5 true (.l 0)) ((zStep E (cy Y) ⟨.build 122 [(0, (.l 2)), (1, (.l 0))], .push, none, false, 5, none⟩) ((zCall (cy Y) 86 [(.v 1), (.l 0)] .push) ((zCall (cy Y) 85 [(.l 0)] .push) ((zV 3 (vMv (.l 0))) k))))))))
  zRet))), [.tmp (.v 3)]⟩
theorem G38_ok (fn : Nat → Option Func) (pu : Nat → Bool) (pr : Nat → List AV → Option (Heap → Option (Eff × Acc))) : ZOk ⟨Tryz.tyT, fn, pu, pr⟩ npT F38 (G38 ⟨Tryz.tyT, fn, pu, pr⟩) := ⟨by kernel_rfl, by kernel_rfl, by kernel_rfl, fun cy Y k => by kernel_rfl⟩
noncomputable def F39 : FFn := cF LV 0 [1, 0, 3] Tryz.f39
noncomputable def G39 (E : Env) : ZFn := ⟨35, [1, 0, 3], fun cy Y fuel =>
  (zSeq (zReg fun k => (zStep E (cy Y) ⟨.box 42 (.v 0), (.var 2), none, false, 0, (some 0)⟩) k)
  (zSeq (zSeq (zDreg 1 fun n0 k => (zPD (vNilCheck (.v 1))) ((zPD (vFieldAddr 0 (.l 0))) ((zLD B10 4 1 false (.l 0)) ((zPD (vFieldAddr 5 (.v 2))) ((zLD B10 6 1 false (.l 0)) ((zCallD (cy Y) B10 7 84 [(.v 1), (.l 2), (.l 0)] .push) ((zPD (vNot (.l 0))) k)))))))
  (zCond (.l 0) (zSeq (zReg fun k => (zL 15 true (.v 2)) ((zStep E (cy Y) ⟨.build 42 [(0, (.k (.int .i64 4))), (4, (.k (.int .i64 21)))], .push, none, false, 2, none⟩) ((zCall (cy Y) 37 [(.v 1), (.l 1), (.l 0)] .push) k)))
  zRet) zSkip))
  (zSeq (zDreg 1 fun n0 k => (zPD (vNilCheck (.v 1))) ((zPD (vFieldAddr 5 (.l 0))) ((zLD B11 3 1 false (.l 0)) ((zPD (vFieldAddr 5 (.v 2))) ((zLD B11 5 1 false (.l 0)) ((zCallD (cy Y) B11 6 87 [(.l 2), (.l 0)] .push) k))))))
  (zDreg 2 fun n0 k => (zLD B12 1 15 true (.v 2)) ((zPD (vNilCheck (.v 1))) ((zPD (vFieldAddr 2 (.l 0))) ((zLD B12 5 1 false (.l 0)) ((zPD (vFieldAddr 5 (.v 2))) ((zLD B12 7 1 false (.l 0)) ((zCallD (cy Y) B12 8 14 [(.l 2), (.l 0)] .push) ((zStepD E (cy Y) B12 n0 ⟨.build 42 [(0, (.k (.int .i64 4))), (6, (.l 0))], .push, none, false, 9, none⟩) ((zCallD (cy Y) B12 10 37 [(.v 1), (.l 7), (.l 0)] .push) k)))))))))))), []⟩
theorem G39_ok (fn : Nat → Option Func) (pu : Nat → Bool) (pr : Nat → List AV → Option (Heap → Option (Eff × Acc))) : ZOk ⟨Tryz.tyT, fn, pu, pr⟩ npT F39 (G39 ⟨Tryz.tyT, fn, pu, pr⟩) := ⟨by kernel_rfl, by kernel_rfl, by kernel_rfl, fun cy Y k => by kernel_rfl⟩
noncomputable def F40 : FFn := cF LV 0 [1, 3, 0] Tryz.f40
noncomputable def G40 (E : Env) : ZFn := ⟨14, [1, 3, 0], fun cy Y fuel =>
  (zSeq (zReg fun k => (zStep E (cy Y) ⟨.box 26 (.v 0), (.var 1), none, false, 0, (some 0)⟩) k)
  (zSeq (zReg fun k => (zL 2 true (.v 1)) ((zStep E (cy Y) ⟨.call 80 [(.l 0)], .push, none, false, 1, (some 0)⟩) k))
  (zCond (.l 0) (zDreg 2 fun n0 k => (zPD (vNilCheck (.v 2))) ((zPD (vFieldAddr 3 (.l 0))) ((zLD B13 4 2 true (.l 0)) ((zLD B13 5 2 true (.v 1)) ((zStepD E (cy Y) B13 n0 ⟨.call 48 [(.l 1), (.l 0)], .push, none, false, 6, (some 0)⟩) ((zCallD (cy Y) B13 7 88 [(.v 2), (.l 0)] .push) k)))))) zSkip))), []⟩
theorem G40_ok (fn : Nat → Option Func) (pu : Nat → Bool) (pr : Nat → List AV → Option (Heap → Option (Eff × Acc))) : ZOk ⟨Tryz.tyT, fn, pu, pr⟩ npT F40 (G40 ⟨Tryz.tyT, fn, pu, pr⟩) := ⟨by kernel_rfl, by kernel_rfl, by kernel_rfl, fun cy Y k => by kernel_rfl⟩
noncomputable def F43 : FFn := cF LV 0 [0] Tryz.f43
noncomputable def G43 (E : Env) : ZFn := ⟨7, [0], fun cy Y fuel =>
  (zReg fun k => (zP (vNilCheck (.v 0))) ((zP (vFieldAddr 2 (.l 0))) ((zL 1 false (.l 0)) ((zCall (cy Y) 92 [(.l 0)] .push) k)))), []⟩
theorem G43_ok (fn : Nat → Option Func) (pu : Nat → Bool) (pr : Nat → List AV → Option (Heap → Option (Eff × Acc))) : ZOk ⟨Tryz.tyT, fn, pu, pr⟩ npT F43 (G43 ⟨Tryz.tyT, fn, pu, pr⟩) := ⟨by kernel_rfl, by kernel_rfl, by kernel_rfl, fun cy Y k => by kernel_rfl⟩
noncomputable def F46 : FFn := cF LV 0 [0, 1, 6, 5, 4, 7] Tryz.f46
noncomputable def G46 (E : Env) : ZFn := ⟨33, [0, 1, 6, 5, 4, 7], fun cy Y fuel =>
  (zSeq (zReg fun k => (zStep E (cy Y) ⟨.alloc 38, (.var 4), none, false, 0, (some 0)⟩) k)
  (zSeq (zSeq (zReg fun k => (zP (vNilCheck (.v 0))) ((zP (vFieldAddr 1 (.l 0))) ((zP (vFieldAddr 1 (.l 0))) ((zL 1 false (.l 0)) ((zStep E (cy Y) ⟨.lookup 87 (.l 0) (.v 1) true, .push, none, false, 6, none⟩) ((zP (vExtract 0 (.l 0))) ((zP (vExtract 1 (.l 1))) ((zStep E (cy Y) ⟨.alloc 38, (.var 3), none, false, 10, (some 0)⟩) ((zStep E (cy Y) ⟨.store 38 (.v 3) (.l 1), .none, none, false, 11, none⟩) ((zV 2 (vMv (.l 0))) k))))))))))
  (zSeq (zReg fun k => k)
  (zCond (.v 2) (zSeq (zReg fun k => (zL 5 true (.v 3)) ((zStep E (cy Y) ⟨.store 38 (.v 4) (.l 0), .none, none, false, 1, none⟩) k))
  zRet) zSkip)))
  (zSeq (zReg fun k => (zP (vNilCheck (.v 0))) ((zP (vFieldAddr 0 (.l 0))) ((zL 1 false (.l 0)) ((zStep E (cy Y) ⟨.call 78 [(.l 0), (.v 1)], .push, none, false, 5, (some 0)⟩) ((zP (vExtract 0 (.l 0))) ((zP (vExtract 1 (.l 1))) ((zStep E (cy Y) ⟨.alloc 83, (.var 5), none, false, 9, (some 1)⟩) ((zStep E (cy Y) ⟨.store 83 (.v 5) (.l 1), .none, none, false, 10, none⟩) ((zP (vMv (.l 0))) k)))))))))
  (zSeq (zReg fun k => (zP (vFieldAddr 2 (.v 5))) ((zL 2 true (.l 0)) ((zStep E (cy Y) ⟨.call 95 [(.l 0)], .push, none, false, 2, (some 0)⟩) ((zStep E (cy Y) ⟨.store 38 (.v 4) (.l 0), .none, none, false, 3, none⟩) k))))
  zRet)))), [.cell (.v 4) 38]⟩
theorem G46_ok (fn : Nat → Option Func) (pu : Nat → Bool) (pr : Nat → List AV → Option (Heap → Option (Eff × Acc))) : ZOk ⟨Tryz.tyT, fn, pu, pr⟩ npT F46 (G46 ⟨Tryz.tyT, fn, pu, pr⟩) := ⟨by kernel_rfl, by kernel_rfl, by kernel_rfl, fun cy Y k => by kernel_rfl⟩
noncomputable def F48 : FFn := cF LV 0 [0, 1, 2, 3, 5, 4] Tryz.f48
noncomputable def G48 (E : Env) : ZFn := ⟨22, [0, 1, 2, 3, 5, 4], fun cy Y fuel =>
  (zSeq (zReg fun k => (zStep E (cy Y) ⟨.box 26 (.v 0), (.var 2), none, false, 0, (some 0)⟩) ((zStep E (cy Y) ⟨.box 26 (.v 1), (.var 3), none, false, 1, (some 1)⟩) ((zStep E (cy Y) ⟨.alloc 26, (.var 5), none, false, 2, (some 2)⟩) k)))
  (zSeq (zReg fun k => (zP (vFieldAddr 1 (.v 2))) ((zL 1 false (.l 0)) ((zP (vFieldAddr 1 (.v 3))) ((zL 1 false (.l 0)) ((zCall (cy Y) 96 [(.l 2), (.l 0), (.k (.clo 97 [])), (.k (.clo 98 []))] .push) ((zV 4 (vMv (.l 0))) k))))))
  (zSeq (zDreg 1 fun n0 k => (zPD (vFieldAddr 0 (.v 2))) ((zLD B14 1 1 false (.l 0)) ((zPD (vFieldAddr 0 (.v 3))) ((zLD B14 3 1 false (.l 0)) ((zCallD (cy Y) B14 4 101 [(.l 2), (.l 0), (.k (.clo 102 [])), (.k (.clo 103 []))] .push) ((zPD (vLenL (.v 4))) ((zStepD E (cy Y) B14 n0 ⟨.most false [(.l 0), (.k (.int .i64 40))], .push, none, false, 8, none⟩) ((zStepD E (cy Y) B14 n0 ⟨.slice 24 (.v 4) none (some (.l 0)) none, .push, none, false, 9, none⟩) ((zStepD E (cy Y) B14 n0 ⟨.build 26 [(0, (.l 3)), (1, (.l 0))], .push, none, false, 10, none⟩) ((zStepD E (cy Y) B14 n0 ⟨.store 26 (.v 5) (.l 0), .none, none, false, 11, none⟩) k))))))))))
  zRet))), [.cell (.v 5) 26]⟩
theorem G48_ok (fn : Nat → Option Func) (pu : Nat → Bool) (pr : Nat → List AV → Option (Heap → Option (Eff × Acc))) : ZOk ⟨Tryz.tyT, fn, pu, pr⟩ npT F48 (G48 ⟨Tryz.tyT, fn, pu, pr⟩) := ⟨by kernel_rfl, by kernel_rfl, by kernel_rfl, fun cy Y k => by kernel_rfl⟩
noncomputable def F62 : FFn := cF LV 0 [0, 2, 19, 18, 17, 5, 6, 3, 44, 43, 42, 8] Tryz.f62
noncomputable def G62 (E : Env) : ZFn := ⟨57, [0, 2, 19, 18, 17, 5, 6, 3, 44, 43, 42, 8], fun cy Y fuel =>
  (zSeq (zReg fun k => (zP (vNilCheck (.v 0))) ((zP (vFieldAddr 5 (.l 0))) ((zL 1 false (.l 0)) ((zCall (cy Y) 116 [(.l 0)] .push) ((zP (vExtract 0 (.l 0))) ((zP (vExtract 1 (.l 1))) ((zV 1 (vMv (.l 1))) ((zV 7 (vMv (.l 0))) k))))))))
  (zSeq (zSeq (zReg fun k => (zV 4 (vMv (.v 1))) ((zV 3 (vLenL (.v 4))) ((zV 2 (vMv (.k (.int .i64 0)))) k)))
  (zBlock 0 (zLoop fuel (zSeq (zReg fun k => (zP (vInt E fLss .lss 3 false false (.v 2) (.v 3))) k)
  (zSeq (zCond (.l 0) zSkip (zExit 0))
  (zSeq (zBlock 1 (zSeq (zReg fun k => (zP (vIndexAddr 1 (.v 4) (.v 2))) ((zL 1 false (.l 0)) ((zV 5 (vMv (.l 0))) k)))
  (zSeq (zReg fun k => (zP (vNilCheck (.v 0))) ((zP (vFieldAddr 3 (.l 0))) ((zL 2 true (.l 0)) ((zCall (cy Y) 117 [(.l 0), (.v 5)] .push) ((zP (vInt E fAdd .add 3 false true (.l 0) (.k (.int .i64 1)))) ((zV 6 (vMv (.l 0))) k))))))
  (zSeq (zReg fun k => (zP (vInt E (fGen .leq) .leq 3 false true (.v 6) (.k (.int .i64 3)))) k)
  (zCond (.l 0) (zReg fun k => (zP (vNilCheck (.v 0))) ((zP (vFieldAddr 3 (.l 0))) ((zL 2 true (.l 0)) ((zStep E (cy Y) ⟨.call 118 [(.l 0), (.v 5), (.v 6)], .push, none, false, 7, (some 0)⟩) ((zCall (cy Y) 40 [(.v 0), (.l 0)] .push) k))))) zSkip)))))
  (zReg fun k => (zP (vInt E fAdd .add 3 false true (.v 2) (.k (.int .i64 1)))) ((zV 2 (vMv (.l 0))) k))))))))
  (zSeq (zReg fun k => (zV 10 (vMv (.v 7))) ((zV 9 (vLenL (.v 10))) ((zV 8 (vMv (.k (.int .i64 0)))) k)))
  (zBlock 2 (zLoop fuel (zSeq (zReg fun k => (zP (vInt E fLss .lss 3 false false (.v 8) (.v 9))) k)
  (zSeq (zCond (.l 0) zSkip (zExit 2))
  (zSeq (zBlock 3 (zSeq (zReg fun k => (zP (vIndexAddr 1 (.v 10) (.v 8))) ((zL 1 false (.l 0)) ((zV 11 (vMv (.l 0))) k)))
  (zReg fun k => (zP (vNilCheck (.v 0))) ((zP (vFieldAddr 3 (.l 0))) ((zL 2 true (.l 0)) ((zStep E (cy Y) ⟨.call 118 [(.l 0), (.v 11), (.k (.int .i64 2))], .push, none, false, 6, (some 0)⟩) ((zCall (cy Y) 40 [(.v 0), (.l 0)] .push) k)))))))
  (zReg fun k => (zP (vInt E fAdd .add 3 false true (.v 8) (.k (.int .i64 1)))) ((zV 8 (vMv (.l 0))) k)))))))))), []⟩
theorem G62_ok (fn : Nat → Option Func) (pu : Nat → Bool) (pr : Nat → List AV → Option (Heap → Option (Eff × Acc))) : ZOk ⟨Tryz.tyT, fn, pu, pr⟩ npT F62 (G62 ⟨Tryz.tyT, fn, pu, pr⟩) := ⟨by kernel_rfl, by kernel_rfl, by kernel_rfl, fun cy Y k => by kernel_rfl⟩
noncomputable def F63 : FFn := cF LV 1 [0, 1] Tryz.f63
noncomputable def G63 (E : Env) : ZFn := ⟨38, [0, 1], fun cy Y fuel =>
  (zSeq (zReg fun k => (zStep E (cy Y) ⟨.box 29 (.v 0), (.var 1), none, false, 0, (some 0)⟩) k)
  (zSeq (zSeq (zReg fun k => (zL 1 false (.v 1)) ((zCall (cy Y) 65 [(.l 0)] .push) k))
  (zBlock 0 (zRange cy Y (.l 0) 1 [none, (some (.v 1)), none, none] [none, (some (.v 1)), none, none, none, none, none, none, none, none, none, none, none, none, none, none, none, none, none, none, none, none, none, none, none, none, none, none, none, none, none, none, none, none, none, none, none, none] [8] (codeAt [1, 0, 1, 0, 0] (bodyOf Tryz.f63)) (codeAt [1, 0, 1, 0, 1] (bodyOf Tryz.f63)))))
  (zReg fun k => (zL 1 false (.v 1)) ((zStep E (cy Y) ⟨.mkMap 88, .push, none, false, 1, (some 0)⟩) ((zP (vNilCheck (.l 1))) ((zP (vFieldAddr 6 (.l 0))) ((zStep E (cy Y) ⟨.store 88 (.l 0) (.l 2), .none, none, false, 4, none⟩) k))))))), []⟩
theorem G63_ok (fn : Nat → Option Func) (pu : Nat → Bool) (pr : Nat → List AV → Option (Heap → Option (Eff × Acc))) : ZOk ⟨Tryz.tyT, fn, pu, pr⟩ npT F63 (G63 ⟨Tryz.tyT, fn, pu, pr⟩) := ⟨by kernel_rfl, by kernel_rfl, by kernel_rfl, fun cy Y k => by kernel_rfl⟩
noncomputable def F64 : FFn := cF LV 0 [1, 0, 3] Tryz.f64
noncomputable def G64 (E : Env) : ZFn := ⟨19, [1, 0, 3], fun cy Y fuel =>
  (zSeq (zReg fun k => (zStep E (cy Y) ⟨.box 42 (.v 0), (.var 2), none, false, 0, (some 0)⟩) k)
  (zSeq (zReg fun k => (zP (vNilCheck (.v 1))) ((zP (vFieldAddr 0 (.l 0))) ((zL 1 false (.l 0)) ((zP (vFieldAddr 1 (.v 2))) ((zStep E (cy Y) ⟨.store 3 (.l 0) (.l 1), .none, none, false, 5, none⟩) k)))))
  (zDreg 2 fun n0 k => (zPD (vNilCheck (.v 1))) ((zPD (vFieldAddr 10 (.l 0))) ((zLD B15 4 1 false (.l 0)) ((zLD B15 5 15 true (.v 2)) ((zStepD E (cy Y) B15 n0 ⟨.buildSlice 44 1 [(0, (.l 0))], .push, none, false, 6, (some 0)⟩) ((zStepD E (cy Y) B15 n0 ⟨.append 44 44 (.l 2) (.l 0), .push, none, false, 7, (some 1)⟩) ((zPD (vNilCheck (.v 1))) ((zPD (vFieldAddr 10 (.l 0))) ((zStepD E (cy Y) B15 n0 ⟨.store 44 (.l 0) (.l 2), .none, none, false, 10, none⟩) k))))))))))), []⟩
theorem G64_ok (fn : Nat → Option Func) (pu : Nat → Bool) (pr : Nat → List AV → Option (Heap → Option (Eff × Acc))) : ZOk ⟨Tryz.tyT, fn, pu, pr⟩ npT F64 (G64 ⟨Tryz.tyT, fn, pu, pr⟩) := ⟨by kernel_rfl, by kernel_rfl, by kernel_rfl, fun cy Y k => by kernel_rfl⟩
noncomputable def F65 : FFn := cF LV 0 [0, 1, 2] Tryz.f65
noncomputable def G65 (E : Env) : ZFn := ⟨4, [0, 1, 2], fun cy Y fuel =>
  (zSeq (zReg fun k => (zStep E (cy Y) ⟨.box 29 (.v 0), (.var 1), none, false, 0, (some 0)⟩) ((zV 2 (vMv (.k .nilFunc))) k))
  (zSeq (zReg fun k => (zStep E (cy Y) ⟨.mkFunc 120 [(.v 1)], .push, none, false, 0, none⟩) ((zV 2 (vMv (.l 0))) k))
  zRet)), [.tmp (.v 2)]⟩
theorem G65_ok (fn : Nat → Option Func) (pu : Nat → Bool) (pr : Nat → List AV → Option (Heap → Option (Eff × Acc))) : ZOk ⟨Tryz.tyT, fn, pu, pr⟩ npT F65 (G65 ⟨Tryz.tyT, fn, pu, pr⟩) := ⟨by kernel_rfl, by kernel_rfl, by kernel_rfl, fun cy Y k => by kernel_rfl⟩
noncomputable def F67 : FFn := cF LV 0 [0, 12, 11, 10, 3, 4] Tryz.f67
noncomputable def G67 (E : Env) : ZFn := ⟨54, [0, 12, 11, 10, 3, 4], fun cy Y fuel =>
  (zSeq (zReg fun k => (zP (vNilCheck (.v 0))) ((zP (vFieldAddr 2 (.l 0))) ((zL 1 false (.l 0)) ((zCall (cy Y) 27 [(.l 0)] .push) ((zCall (cy Y) 125 [(.l 0)] (.var 3)) ((zV 2 (vLenL (.v 3))) ((zV 1 (vMv (.k (.int .i64 0)))) k)))))))
  (zBlock 0 (zLoop fuel (zSeq (zReg fun k => (zP (vInt E fLss .lss 3 false false (.v 1) (.v 2))) k)
  (zSeq (zCond (.l 0) zSkip (zExit 0))
  (zSeq (zBlock 1 (zSeq (zReg fun k => (zP (vIndexAddr 6 (.v 3) (.v 1))) ((zL 6 true (.l 0)) ((zStep E (cy Y) ⟨.alloc 122, (.var 4), none, false, 2, (some 0)⟩) ((zStep E (cy Y) ⟨.store 122 (.v 4) (.l 0), .none, none, false, 3, none⟩) k))))
  (zSeq (zDreg 1 fun n0 k => (zPD (vNilCheck (.v 0))) ((zPD (vFieldAddr 3 (.l 0))) ((zLD B16 3 2 true (.l 0)) ((zPD (vFieldAddr 0 (.v 4))) ((zLD B16 5 1 false (.l 0)) ((zCallD (cy Y) B16 6 104 [(.l 2), (.l 0)] .push) ((zVD 5 (vMv (.l 0))) k)))))))
  (zSeq (zSeq (zReg fun k => (zP (vLenL (.v 5))) ((zP (vInt E fEql .eql 3 false true (.l 0) (.k (.int .i64 0)))) ((zG (.l 0) false .push (zP (vMv (.v 5)))) ((zG (.l 1) false .push (zP (vMv (.v 0)))) ((zG (.l 2) false .push (zP (vNilCheck (.l 0)))) ((zG (.l 3) false .push (zP (vFieldAddr 0 (.l 0)))) ((zG (.l 4) false .push (zL 1 false (.l 0))) ((zG (.l 5) false .push (zCall (cy Y) 126 [(.l 4), (.l 0)] .push)) ((zP (vPick (.l 6) (.k (.bool true)) (.l 0))) k)))))))))
  (zCond (.l 0) (zExit 1) zSkip))
  (zSeq (zReg fun k => (zP (vNilCheck (.v 0))) ((zP (vFieldAddr 7 (.l 0))) ((zL 1 false (.l 0)) ((zP (vInt E fAdd .add 33 false true (.l 0) (.k (.int .u64 1)))) ((zP (vNilCheck (.v 0))) ((zP (vFieldAddr 7 (.l 0))) ((zStep E (cy Y) ⟨.store 33 (.l 0) (.l 2), .none, none, false, 7, none⟩) k)))))))
  (zDreg 2 fun n0 k => (zPD (vIndexAddr 1 (.v 5) (.k (.int .i64 0)))) ((zLD B17 3 1 false (.l 0)) ((zPD (vNilCheck (.v 0))) ((zPD (vFieldAddr 7 (.l 0))) ((zLD B17 7 1 false (.l 0)) ((zLD B17 8 6 true (.v 4)) ((zStepD E (cy Y) B17 n0 ⟨.buildSlice 39 1 [(0, (.l 0))], .push, none, false, 9, (some 0)⟩) ((zStepD E (cy Y) B17 n0 ⟨.build 42 [(0, (.k (.int .i64 7))), (2, (.l 5)), (3, (.l 2)), (7, (.l 0))], .push, none, false, 10, none⟩) ((zCallD (cy Y) B17 11 64 [(.v 0), (.l 0)] .push) k))))))))))))))
  (zReg fun k => (zP (vInt E fAdd .add 3 false true (.v 1) (.k (.int .i64 1)))) ((zV 1 (vMv (.l 0))) k)))))))), []⟩
theorem G67_ok (fn : Nat → Option Func) (pu : Nat → Bool) (pr : Nat → List AV → Option (Heap → Option (Eff × Acc))) : ZOk ⟨Tryz.tyT, fn, pu, pr⟩ npT F67 (G67 ⟨Tryz.tyT, fn, pu, pr⟩) := ⟨by kernel_rfl, by kernel_rfl, by kernel_rfl, fun cy Y k => by kernel_rfl⟩
noncomputable def F70 : FFn := cF LV 3 [0, 2, 1] Tryz.f70
noncomputable def G70 (E : Env) : ZFn := ⟨29, [0, 2, 1], fun cy Y fuel =>
  (zSeq (zReg fun k => (zStep E (cy Y) ⟨.box 47 (.v 0), (.var 1), none, false, 0, (some 0)⟩) k)
  (zSeq (zReg fun k => (zL 1 false (.v 1)) ((zP (vNilCheck (.l 0))) ((zP (vFieldAddr 2 (.l 0))) ((zL 1 false (.l 0)) ((zCall (cy Y) 127 [(.l 0), (.v 2)] .push) k)))))
  (zSeq (zDreg 1 fun n0 k => (zLD B18 0 1 false (.v 1)) ((zLD B18 1 1 false (.v 1)) ((zPD (vNilCheck (.l 0))) ((zPD (vFieldAddr 0 (.l 0))) ((zLD B18 4 1 false (.l 0)) ((zCallD (cy Y) B18 5 72 [(.l 0)] .push) ((zPD (vNilCheck (.l 5))) ((zPD (vFieldAddr 1 (.l 0))) ((zStepD E (cy Y) B18 n0 ⟨.store 70 (.l 0) (.l 2), .none, none, false, 8, none⟩) k)))))))))
  (zSeq (zReg fun k => (zL 1 false (.v 1)) ((zP (vNilCheck (.l 0))) ((zP (vFieldAddr 2 (.l 0))) ((zL 1 false (.l 0)) ((zCall (cy Y) 128 [(.l 0)] .push) ((zCall (cy Y) 107 [(.l 0)] .push) k))))))
  (zBlock 0 (zRange cy Y (.l 0) 3 [none, (some (.v 1)), none] [none, none, (some (.v 1)), none, none, none, none, none, none, none, none, none, none, none, none, none, none, none, none, none, none, none, none, none, none, none, none, none, none] [25] (codeAt [1, 1, 1, 1, 0, 0] (bodyOf Tryz.f70)) (codeAt [1, 1, 1, 1, 0, 1] (bodyOf Tryz.f70)))))))), []⟩
theorem G70_ok (fn : Nat → Option Func) (pu : Nat → Bool) (pr : Nat → List AV → Option (Heap → Option (Eff × Acc))) : ZOk ⟨Tryz.tyT, fn, pu, pr⟩ npT F70 (G70 ⟨Tryz.tyT, fn, pu, pr⟩) := ⟨by kernel_rfl, by kernel_rfl, by kernel_rfl, fun cy Y k => by kernel_rfl⟩
noncomputable def F71 : FFn := cF LV 4 [0, 1, 3, 2] Tryz.f71
noncomputable def G71 (E : Env) : ZFn := ⟨27, [0, 1, 3, 2], fun cy Y fuel =>
  (zSeq (zReg fun k => (zStep E (cy Y) ⟨.box 47 (.v 0), (.var 1), none, false, 0, (some 0)⟩) ((zV 3 (vMv (.k .nilIface))) k))
  (zSeq (zReg fun k => (zStep E (cy Y) ⟨.alloc 34, (.var 2), none, false, 0, (some 0)⟩) k)
  (zSeq (zSeq (zReg fun k => (zL 1 false (.v 1)) ((zP (vNilCheck (.l 0))) ((zP (vFieldAddr 1 (.l 0))) ((zL 1 false (.l 0)) ((zCall (cy Y) 125 [(.l 0)] .push) ((zCall (cy Y) 130 [(.l 0)] .push) k))))))
  (zBlock 0 (zRange cy Y (.l 0) 4 [none, (some (.v 2)), (some (.v 1)), none] [none, (some (.v 1)), none, (some (.v 2)), none, none, none, none, none, none, none, none, none, none, none, none, none, none, none, none, none, none, none, none, none, none, none] [11] (codeAt [1, 1, 0, 1, 0, 0] (bodyOf Tryz.f71)) (codeAt [1, 1, 0, 1, 0, 1] (bodyOf Tryz.f71)))))
  (zSeq (zDreg 1 fun n0 k => (zLD B19 0 1 false (.v 1)) ((zPD (vNilCheck (.l 0))) ((zPD (vFieldAddr 2 (.l 0))) ((zLD B19 3 1 false (.l 0)) ((zLD B19 4 1 false (.v 2)) ((zCallD (cy Y) B19 5 132 [(.l 1), (.l 0)] .push) ((zVD 3 (vMv (.l 0))) k)))))))
  zRet)))), [.tmp (.v 3)]⟩
theorem G71_ok (fn : Nat → Option Func) (pu : Nat → Bool) (pr : Nat → List AV → Option (Heap → Option (Eff × Acc))) : ZOk ⟨Tryz.tyT, fn, pu, pr⟩ npT F71 (G71 ⟨Tryz.tyT, fn, pu, pr⟩) := ⟨by kernel_rfl, by kernel_rfl, by kernel_rfl, fun cy Y k => by kernel_rfl⟩
noncomputable def F72 : FFn := cF LV 0 [0, 2] Tryz.f72
noncomputable def G72 (E : Env) : ZFn := ⟨12, [0, 2], fun cy Y fuel =>
  (zSeq (zReg fun k => (zV 1 (vMv (.k .nilptr))) k)
  (zSeq (zSeq (zReg fun k => (zStep E (cy Y) ⟨.call 75 [(.v 0)], .push, none, false, 1, (some 0)⟩) ((zP (vNot (.l 0))) k))
  (zCond (.l 0) (zReg fun k => (zV 0 (vMv (.k (.sl 0 [] true)))) k) zSkip))
  (zSeq (zReg fun k => (zStep E (cy Y) ⟨.call 32 [(.v 0)], .push, none, false, 1, (some 0)⟩) ((zStep E (cy Y) ⟨.mkMap 87, .push, none, false, 2, (some 1)⟩) ((zStep E (cy Y) ⟨.build 163 [(1, (.l 0))], .push, none, false, 3, none⟩) ((zStep E (cy Y) ⟨.build 165 [(0, (.l 2)), (1, (.l 0))], .push, none, false, 4, none⟩) ((zStep E (cy Y) ⟨.box 165 (.l 0), .push, none, false, 5, (some 2)⟩) ((zV 1 (vMv (.l 0))) k))))))
  zRet))), [.tmp (.v 1)]⟩
theorem G72_ok (fn : Nat → Option Func) (pu : Nat → Bool) (pr : Nat → List AV → Option (Heap → Option (Eff × Acc))) : ZOk ⟨Tryz.tyT, fn, pu, pr⟩ npT F72 (G72 ⟨Tryz.tyT, fn, pu, pr⟩) := ⟨by kernel_rfl, by kernel_rfl, by kernel_rfl, fun cy Y k => by kernel_rfl⟩
noncomputable def F73 : FFn := cF LV 0 [0] Tryz.f73
noncomputable def G73 (E : Env) : ZFn := ⟨3, [0], fun cy Y fuel =>
  (zSeq (zReg fun k => (zV 0 (vMv (.k .nilptr))) k)
  (zSeq (zReg fun k => (zStep E (cy Y) ⟨.build 216 [], .push, none, false, 0, none⟩) ((zStep E (cy Y) ⟨.box 216 (.l 0), .push, none, false, 1, (some 0)⟩) ((zV 0 (vMv (.l 0))) k)))
  zRet)), [.tmp (.v 0)]⟩
theorem G73_ok (fn : Nat → Option Func) (pu : Nat → Bool) (pr : Nat → List AV → Option (Heap → Option (Eff × Acc))) : ZOk ⟨Tryz.tyT, fn, pu, pr⟩ npT F73 (G73 ⟨Tryz.tyT, fn, pu, pr⟩) := ⟨by kernel_rfl, by kernel_rfl, by kernel_rfl, fun cy Y k => by kernel_rfl⟩
noncomputable def F74 : FFn := cF LV 0 [0, 1, 4, 2, 8, 18] Tryz.f74
noncomputable def G74 (E : Env) : ZFn := ⟨30, [0, 1, 4, 2, 8, 18], fun cy Y fuel =>
  (zSeq (zReg fun k => (zStep E (cy Y) ⟨.box 42 (.v 0), (.var 1), none, false, 0, (some 0)⟩) ((zStep E (cy Y) ⟨.alloc 142, (.var 3), none, false, 1, (some 1)⟩) k))
  (zSeq (zSeq (zReg fun k => (zP (vFieldAddr 0 (.v 1))) ((zDstW (.var 2) (wLoad 1 false (.l 0))) k))
  (zBlock 0 (zSeq (zReg fun k => (zP (vInt E fEql .eql 3 false true (.v 2) (.k (.int .i64 1)))) ((zP (vMv (.l 0))) k))
  (zCond (.l 0) (zSeq (zReg fun k => (zStep E (cy Y) ⟨.build 142 [(0, (.k (.bool true))), (1, (.k (.bool true)))], .push, none, false, 0, none⟩) ((zStep E (cy Y) ⟨.store 142 (.v 3) (.l 0), .none, none, false, 1, none⟩) k))
  zRet) (zSeq (zSeq (zReg fun k => (zP (vInt E fEql .eql 3 false true (.v 2) (.k (.int .i64 2)))) ((zV 4 (vMv (.l 0))) k))
  (zCond (.v 4) zSkip (zReg fun k => (zP (vInt E fEql .eql 3 false true (.v 2) (.k (.int .i64 3)))) ((zV 4 (vMv (.l 0))) k))))
  (zCond (.v 4) (zSeq (zReg fun k => (zStep E (cy Y) ⟨.build 142 [(0, (.k (.bool true)))], .push, none, false, 0, none⟩) ((zStep E (cy Y) ⟨.store 142 (.v 3) (.l 0), .none, none, false, 1, none⟩) k))
  zRet) (zSeq (zReg fun k => (zP (vInt E fEql .eql 3 false true (.v 2) (.k (.int .i64 4)))) ((zP (vMv (.l 0))) k))
  (zCond (.l 0) (zSeq (zReg fun k => (zP (vFieldAddr 4 (.v 1))) ((zL 1 false (.l 0)) ((zP (vInt E fEql .eql 3 false true (.l 0) (.k (.int .i64 0)))) ((zStep E (cy Y) ⟨.build 142 [(0, (.k (.bool true))), (1, (.l 0))], .push, none, false, 3, none⟩) ((zStep E (cy Y) ⟨.store 142 (.v 3) (.l 0), .none, none, false, 4, none⟩) k)))))
  zRet) (zSeq (zSeq (zReg fun k => (zP (vInt E fEql .eql 3 false true (.v 2) (.k (.int .i64 5)))) ((zV 5 (vMv (.l 0))) k))
  (zCond (.v 5) zSkip (zSeq (zReg fun k => (zP (vInt E fEql .eql 3 false true (.v 2) (.k (.int .i64 7)))) ((zV 5 (vMv (.l 0))) k))
  (zCond (.v 5) zSkip (zReg fun k => (zP (vInt E fEql .eql 3 false true (.v 2) (.k (.int .i64 8)))) ((zV 5 (vMv (.l 0))) k))))))
  (zCond (.v 5) (zSeq (zReg fun k => (zStep E (cy Y) ⟨.build 142 [(2, (.k (.bool true)))], .push, none, false, 0, none⟩) ((zStep E (cy Y) ⟨.store 142 (.v 3) (.l 0), .none, none, false, 1, none⟩) k))
  zRet) (zSeq (zReg fun k => (zP (vInt E fEql .eql 3 false true (.v 2) (.k (.int .i64 6)))) ((zP (vMv (.l 0))) k))
  (zCond (.l 0) (zSeq (zReg fun k => (zStep E (cy Y) ⟨.build 142 [(3, (.k (.bool true)))], .push, none, false, 0, none⟩) ((zStep E (cy Y) ⟨.store 142 (.v 3) (.l 0), .none, none, false, 1, none⟩) k))
  zRet) (zSeq (zReg fun k => (zP (vInt E fEql .eql 3 false true (.v 2) (.k (.int .i64 9)))) ((zP (vMv (.l 0))) k))
  (zCond (.l 0) (zSeq (zReg fun k => (zStep E (cy Y) ⟨.build 142 [(4, (.k (.bool true)))], .push, none, false, 0, none⟩) ((zStep E (cy Y) ⟨.store 142 (.v 3) (.l 0), .none, none, false, 1, none⟩) k))
  zRet) zSkip))))))))))))))
  (zSeq (zReg fun k => (zStep E (cy Y) ⟨.build 142 [], .push, none, false, 0, none⟩) ((zStep E (cy Y) ⟨.store 142 (.v 3) (.l 0), .none, none, false, 1, none⟩) k))
  zRet))), [.cell (.v 3) 142]⟩
theorem G74_ok (fn : Nat → Option Func) (pu : Nat → Bool) (pr : Nat → List AV → Option (Heap → Option (Eff × Acc))) : ZOk ⟨Tryz.tyT, fn, pu, pr⟩ npT F74 (G74 ⟨Tryz.tyT, fn, pu, pr⟩) := ⟨by kernel_rfl, by kernel_rfl, by kernel_rfl, fun cy Y k => by kernel_rfl⟩
noncomputable def F75 : FFn := cF LV 0 [0, 10, 9, 8, 4, 3, 6, 7, 5, 2] Tryz.f75
noncomputable def G75 (E : Env) : ZFn := ⟨68, [0, 10, 9, 8, 4, 3, 6, 7, 5, 2], fun cy Y fuel =>
  (zSeq (zReg fun k => (zV 9 (vMv (.k (.bool false)))) k)
  (zSeq (zSeq (zReg fun k => (zV 3 (vMv (.v 0))) ((zV 2 (vLenL (.v 3))) ((zV 1 (vMv (.k (.int .i64 0)))) k)))
  (zBlock 0 (zLoop fuel (zSeq (zReg fun k => (zP (vInt E fLss .lss 3 false false (.v 1) (.v 2))) k)
  (zSeq (zCond (.l 0) zSkip (zExit 0))
  (zSeq (zBlock 1 (zSeq (zReg fun k => (zP (vIndexAddr 4 (.v 3) (.v 1))) ((zL 4 true (.l 0)) ((zStep E (cy Y) ⟨.alloc 83, (.var 4), none, false, 3, (some 0)⟩) ((zV 5 (vMv (.v 1))) ((zStep E (cy Y) ⟨.store 83 (.v 4) (.l 0), .none, none, false, 5, none⟩) k)))))
  (zSeq (zReg fun k => (zP (vFieldAddr 2 (.v 4))) ((zL 2 true (.l 0)) ((zCall (cy Y) 133 [(.l 0)] .push) ((zV 8 (vMv (.l 0))) k))))
  (zSeq (zReg fun k => (zP (vFieldAddr 0 (.v 4))) ((zL 1 false (.l 0)) ((zP (vLenS (.l 0))) ((zP (vInt E fEql .eql 3 false true (.l 0) (.k (.int .i64 1)))) ((zG (.l 0) true .push (zP (vFieldAddr 0 (.v 4)))) ((zG (.l 1) true .push (zL 1 false (.l 0))) ((zG (.l 2) true .push (zStep E (cy Y) ⟨.index 9 (.l 0) (.k (.int .i64 0)), .push, none, false, 7, none⟩)) ((zG (.l 3) true .push (zP (vInt E (fGen .geq) .geq 5 false true (.l 0) (.k (.int .u8 97))))) ((zP (vPick (.l 4) (.l 0) (.k (.bool false)))) ((zG (.l 0) true .push (zP (vFieldAddr 0 (.v 4)))) ((zG (.l 1) true .push (zL 1 false (.l 0))) ((zG (.l 2) true .push (zStep E (cy Y) ⟨.index 9 (.l 0) (.k (.int .i64 0)), .push, none, false, 13, none⟩)) ((zG (.l 3) true .push (zP (vInt E (fGen .leq) .leq 5 false true (.l 0) (.k (.int .u8 122))))) ((zP (vPick (.l 4) (.l 0) (.k (.bool false)))) ((zV 6 (vMv (.l 0))) k)))))))))))))))
  (zSeq (zReg fun k => (zStep E (cy Y) ⟨.slice 31 (.v 0) none (some (.v 5)) none, .push, none, false, 2, none⟩) ((zStep E (cy Y) ⟨.mkFunc 135 [(.v 4)], .push, none, false, 3, none⟩) ((zCall (cy Y) 134 [(.l 1), (.l 0)] .push) ((zV 7 (vMv (.l 0))) k))))
  (zSeq (zReg fun k => (zP (vNot (.v 6))) ((zG (.l 0) false .push (zP (vMv (.v 7)))) ((zP (vPick (.l 1) (.k (.bool true)) (.l 0))) ((zG (.l 0) false .push (zP (vMv (.v 8)))) ((zG (.l 1) false .push (zP (vInt E fEql .eql 3 false true (.l 0) (.k (.int .i64 0))))) ((zP (vPick (.l 2) (.k (.bool true)) (.l 0))) ((zG (.l 0) false .push (zP (vFieldAddr 1 (.v 4)))) ((zG (.l 1) false .push (zL 1 false (.l 0))) ((zG (.l 2) false .push (zP (vMv (.v 8)))) ((zG (.l 3) false .push (zP (vInt E fNeq .neq 3 false false (.l 1) (.l 0)))) ((zG (.l 4) false .push (zP (vMv (.l 0)))) ((zG (.l 0) true .push (zP (vFieldAddr 1 (.v 4)))) ((zG (.l 1) true .push (zL 1 false (.l 0))) ((zG (.l 2) true .push (zP (vInt E fNeq .neq 3 false true (.l 0) (.k (.int .i64 1))))) ((zG (.l 8) false .push (zP (vPick (.l 3) (.l 0) (.k (.bool false))))) ((zP (vPick (.l 9) (.k (.bool true)) (.l 0))) k))))))))))))))))
  (zCond (.l 0) (zSeq (zReg fun k => (zV 9 (vMv (.k (.bool false)))) k)
  zRet) zSkip)))))))
  (zReg fun k => (zP (vInt E fAdd .add 3 false true (.v 1) (.k (.int .i64 1)))) ((zV 1 (vMv (.l 0))) k))))))))
  (zSeq (zReg fun k => (zP (vLenL (.v 0))) ((zP (vInt E (fGen .geq) .geq 3 false true (.l 0) (.k (.int .i64 1)))) ((zG (.l 0) true .push (zP (vMv (.v 0)))) ((zG (.l 1) true .push (zP (vLenL (.l 0)))) ((zG (.l 2) true .push (zP (vInt E (fGen .leq) .leq 3 false true (.l 0) (.k (.int .i64 4))))) ((zP (vPick (.l 3) (.l 0) (.k (.bool false)))) ((zV 9 (vMv (.l 0))) k)))))))
  zRet))), [.tmp (.v 9)]⟩
theorem G75_ok (fn : Nat → Option Func) (pu : Nat → Bool) (pr : Nat → List AV → Option (Heap → Option (Eff × Acc))) : ZOk ⟨Tryz.tyT, fn, pu, pr⟩ npT F75 (G75 ⟨Tryz.tyT, fn, pu, pr⟩) := ⟨by kernel_rfl, by kernel_rfl, by kernel_rfl, fun cy Y k => by kernel_rfl⟩
noncomputable def F76 : FFn := cF LV 0 [0, 2] Tryz.f76
noncomputable def G76 (E : Env) : ZFn := ⟨17, [0, 2], fun cy Y fuel =>
  (zSeq (zReg fun k => (zV 1 (vMv (.k (.bool false)))) k)
  (zSeq (zReg fun k => (zP (vInt E (fGen .geq) .geq 3 false true (.v 0) (.k (.int .i64 0)))) ((zG (.l 0) true .push (zP (vMv (.v 0)))) ((zG (.l 1) true .push (zP (vInt E fLss .lss 3 false true (.l 0) (.k (.int .i64 4))))) ((zP (vPick (.l 2) (.l 0) (.k (.bool false)))) ((zG (.l 0) false .push (zP (vMv (.v 0)))) ((zG (.l 1) false .push (zP (vInt E (fGen .geq) .geq 3 false true (.l 0) (.k (.int .i64 100))))) ((zG (.l 2) false .push (zP (vMv (.l 0)))) ((zG (.l 0) true .push (zP (vMv (.v 0)))) ((zG (.l 1) true .push (zP (vInt E fLss .lss 3 false true (.l 0) (.k (.int .i64 103))))) ((zG (.l 5) false .push (zP (vPick (.l 2) (.l 0) (.k (.bool false))))) ((zP (vPick (.l 6) (.k (.bool true)) (.l 0))) ((zV 1 (vMv (.l 0))) k))))))))))))
  zRet)), [.tmp (.v 1)]⟩
theorem G76_ok (fn : Nat → Option Func) (pu : Nat → Bool) (pr : Nat → List AV → Option (Heap → Option (Eff × Acc))) : ZOk ⟨Tryz.tyT, fn, pu, pr⟩ npT F76 (G76 ⟨Tryz.tyT, fn, pu, pr⟩) := ⟨by kernel_rfl, by kernel_rfl, by kernel_rfl, fun cy Y k => by kernel_rfl⟩
noncomputable def F77 : FFn := cF LV 0 [0, 1, 2, 3, 4] Tryz.f77
noncomputable def G77 (E : Env) : ZFn := ⟨52, [0, 1, 2, 3, 4], fun cy Y fuel =>
  (zSeq (zReg fun k => (zStep E (cy Y) ⟨.box 142 (.v 0), (.var 2), none, false, 0, (some 0)⟩) ((zStep E (cy Y) ⟨.box 42 (.v 1), (.var 3), none, false, 1, (some 1)⟩) ((zV 4 (vMv (.k (.bool false)))) k)))
  (zSeq (zReg fun k => (zP (vFieldAddr 0 (.v 2))) ((zL 1 false (.l 0)) ((zG (.l 0) false .push (zP (vFieldAddr 5 (.v 3)))) ((zG (.l 1) false .push (zL 1 false (.l 0))) ((zG (.l 2) false .push (zP (vInt E fEql .eql 9 false true (.l 0) (.k (.str []))))) ((zP (vPick (.l 3) (.k (.bool true)) (.l 0))) ((zG (.l 0) true .push (zP (vFieldAddr 1 (.v 2)))) ((zG (.l 1) true .push (zL 1 false (.l 0))) ((zG (.l 2) true .push (zP (vMv (.l 0)))) ((zG (.l 0) false .push (zP (vFieldAddr 6 (.v 3)))) ((zG (.l 1) false .push (zL 5 true (.l 0))) ((zG (.l 2) false .push (zStep E (cy Y) ⟨.build 38 [], .push, none, false, 13, none⟩)) ((zG (.l 3) false .push (zStep E (cy Y) ⟨.call 136 [(.l 1), (.l 0)], .push, none, false, 14, (some 0)⟩)) ((zG (.l 7) true .push (zP (vPick (.l 4) (.k (.bool true)) (.l 0)))) ((zP (vPick (.l 8) (.l 0) (.k (.bool false)))) ((zG (.l 0) true .push (zP (vFieldAddr 2 (.v 2)))) ((zG (.l 1) true .push (zL 1 false (.l 0))) ((zG (.l 2) true .push (zP (vMv (.l 0)))) ((zG (.l 0) false .push (zP (vFieldAddr 11 (.v 3)))) ((zG (.l 1) false .push (zL 1 false (.l 0))) ((zG (.l 2) false .push (zP (vLenL (.l 0)))) ((zG (.l 3) false .push (zP (vInt E fEql .eql 3 false true (.l 0) (.k (.int .i64 0))))) ((zG (.l 7) true .push (zP (vPick (.l 4) (.k (.bool true)) (.l 0)))) ((zP (vPick (.l 8) (.l 0) (.k (.bool false)))) ((zG (.l 0) true .push (zP (vFieldAddr 3 (.v 2)))) ((zG (.l 1) true .push (zL 1 false (.l 0))) ((zG (.l 2) true .push (zP (vMv (.l 0)))) ((zG (.l 0) false .push (zP (vFieldAddr 12 (.v 3)))) ((zG (.l 1) false .push (zL 1 false (.l 0))) ((zG (.l 2) false .push (zP (vLenL (.l 0)))) ((zG (.l 3) false .push (zP (vInt E fEql .eql 3 false true (.l 0) (.k (.int .i64 0))))) ((zG (.l 7) true .push (zP (vPick (.l 4) (.k (.bool true)) (.l 0)))) ((zP (vPick (.l 8) (.l 0) (.k (.bool false)))) ((zG (.l 0) true .push (zP (vFieldAddr 4 (.v 2)))) ((zG (.l 1) true .push (zL 1 false (.l 0))) ((zG (.l 2) true .push (zP (vMv (.l 0)))) ((zG (.l 0) false .push (zP (vFieldAddr 13 (.v 3)))) ((zG (.l 1) false .push (zL 2 true (.l 0))) ((zG (.l 2) false .push (zStep E (cy Y) ⟨.build 26 [], .push, none, false, 43, none⟩)) ((zG (.l 3) false .push (zStep E (cy Y) ⟨.call 137 [(.l 1), (.l 0)], .push, none, false, 44, (some 1)⟩)) ((zG (.l 7) true .push (zP (vPick (.l 4) (.k (.bool true)) (.l 0)))) ((zP (vPick (.l 8) (.l 0) (.k (.bool false)))) ((zV 4 (vMv (.l 0))) k)))))))))))))))))))))))))))))))))))))))))))
  zRet)), [.tmp (.v 4)]⟩
theorem G77_ok (fn : Nat → Option Func) (pu : Nat → Bool) (pr : Nat → List AV → Option (Heap → Option (Eff × Acc))) : ZOk ⟨Tryz.tyT, fn, pu, pr⟩ npT F77 (G77 ⟨Tryz.tyT, fn, pu, pr⟩) := ⟨by kernel_rfl, by kernel_rfl, by kernel_rfl, fun cy Y k => by kernel_rfl⟩
noncomputable def F78 : FFn := cF LV 0 [1, 3, 4, 0, 6, 5] Tryz.f78
noncomputable def G78 (E : Env) : ZFn := ⟨31, [1, 3, 4, 0, 6, 5], fun cy Y fuel =>
  (zSeq (zReg fun k => (zStep E (cy Y) ⟨.box 9 (.v 0), (.var 1), none, false, 0, (some 0)⟩) ((zStep E (cy Y) ⟨.alloc 83, (.var 2), none, false, 1, (some 1)⟩) ((zV 5 (vMv (.k (.bool false)))) k)))
  (zSeq (zSeq (zReg fun k => (zL 1 false (.v 1)) ((zP (vLenS (.l 0))) ((zP (vInt E fLss .lss 3 false true (.l 0) (.k (.int .i64 2)))) ((zG (.l 0) false .push (zL 1 false (.v 1))) ((zG (.l 1) false .push (zP (vLenS (.l 0)))) ((zG (.l 2) false .push (zP (vInt E fGtr .gtr 3 false true (.l 0) (.k (.int .i64 8))))) ((zP (vPick (.l 3) (.k (.bool true)) (.l 0))) ((zG (.l 0) false .push (zL 1 false (.v 1))) ((zG (.l 1) false .push (zStep E (cy Y) ⟨.call 138 [(.l 0)], .push, none, false, 10, (some 0)⟩)) ((zG (.l 2) false .push (zP (vNot (.l 0)))) ((zP (vPick (.l 3) (.k (.bool true)) (.l 0))) k)))))))))))
  (zCond (.l 0) (zSeq (zReg fun k => (zStep E (cy Y) ⟨.build 83 [], .push, none, false, 0, none⟩) ((zStep E (cy Y) ⟨.store 83 (.v 2) (.l 0), .none, none, false, 1, none⟩) ((zV 5 (vMv (.k (.bool false)))) k)))
  zRet) zSkip))
  (zSeq (zReg fun k => (zStep E (cy Y) ⟨.mkFunc 140 [(.v 1)], .push, none, false, 1, none⟩) ((zCall (cy Y) 139 [(.v 3), (.l 0)] .push) ((zV 4 (vMv (.l 0))) k)))
  (zSeq (zSeq (zReg fun k => (zP (vInt E fLss .lss 3 false true (.v 4) (.k (.int .i64 0)))) k)
  (zCond (.l 0) (zSeq (zReg fun k => (zStep E (cy Y) ⟨.build 83 [], .push, none, false, 0, none⟩) ((zStep E (cy Y) ⟨.store 83 (.v 2) (.l 0), .none, none, false, 1, none⟩) ((zV 5 (vMv (.k (.bool false)))) k)))
  zRet) zSkip))
  (zSeq (zReg fun k => (zP (vIndexAddr 4 (.v 3) (.v 4))) ((zL 4 true (.l 0)) ((zStep E (cy Y) ⟨.store 83 (.v 2) (.l 0), .none, none, false, 4, none⟩) ((zV 5 (vMv (.k (.bool true)))) k))))
  zRet))))), [.cell (.v 2) 83, .tmp (.v 5)]⟩
theorem G78_ok (fn : Nat → Option Func) (pu : Nat → Bool) (pr : Nat → List AV → Option (Heap → Option (Eff × Acc))) : ZOk ⟨Tryz.tyT, fn, pu, pr⟩ npT F78 (G78 ⟨Tryz.tyT, fn, pu, pr⟩) := ⟨by kernel_rfl, by kernel_rfl, by kernel_rfl, fun cy Y k => by kernel_rfl⟩
noncomputable def F79 : FFn := cF LV 0 [2, 0, 1, 8, 7, 5, 6] Tryz.f79
noncomputable def G79 (E : Env) : ZFn := ⟨22, [2, 0, 1, 8, 7, 5, 6], fun cy Y fuel =>
  (zSeq (zReg fun k => (zStep E (cy Y) ⟨.box 38 (.v 0), (.var 5), none, false, 0, (some 0)⟩) ((zV 6 (vMv (.k (.bool false)))) k))
  (zSeq (zReg fun k => (zStep E (cy Y) ⟨.call 78 [(.v 1), (.v 2)], .push, none, false, 2, (some 0)⟩) ((zP (vExtract 0 (.l 0))) ((zP (vExtract 1 (.l 1))) ((zStep E (cy Y) ⟨.alloc 83, (.var 4), none, false, 6, (some 1)⟩) ((zStep E (cy Y) ⟨.store 83 (.v 4) (.l 1), .none, none, false, 7, none⟩) ((zV 3 (vMv (.l 0))) k))))))
  (zSeq (zReg fun k => (zG (.v 3) true .push (zP (vFieldAddr 2 (.v 4)))) ((zG (.v 3) true .push (zL 2 true (.l 0))) ((zG (.v 3) true .push (zL 5 true (.v 5))) ((zG (.v 3) true .push (zStep E (cy Y) ⟨.call 141 [(.l 1), (.l 0)], .push, none, false, 5, (some 0)⟩)) ((zP (vPick (.v 3) (.l 0) (.k (.bool false)))) ((zV 6 (vMv (.l 0))) k))))))
  zRet))), [.tmp (.v 6)]⟩
theorem G79_ok (fn : Nat → Option Func) (pu : Nat → Bool) (pr : Nat → List AV → Option (Heap → Option (Eff × Acc))) : ZOk ⟨Tryz.tyT, fn, pu, pr⟩ npT F79 (G79 ⟨Tryz.tyT, fn, pu, pr⟩) := ⟨by kernel_rfl, by kernel_rfl, by kernel_rfl, fun cy Y k => by kernel_rfl⟩
noncomputable def F80 : FFn := cF LV 0 [0, 1, 11, 10, 9, 4, 3, 48, 47, 46, 7, 5, 2] Tryz.f80
noncomputable def G80 (E : Env) : ZFn := ⟨89, [0, 1, 11, 10, 9, 4, 3, 48, 47, 46, 7, 5, 2], fun cy Y fuel =>
  (zSeq (zReg fun k => (zStep E (cy Y) ⟨.box 26 (.v 0), (.var 1), none, false, 0, (some 0)⟩) ((zV 12 (vMv (.k (.bool false)))) k))
  (zSeq (zSeq (zReg fun k => (zP (vFieldAddr 0 (.v 1))) ((zDstW (.var 4) (wLoad 1 false (.l 0))) ((zV 3 (vLenL (.v 4))) ((zV 2 (vMv (.k (.int .i64 0)))) k))))
  (zBlock 0 (zLoop fuel (zSeq (zReg fun k => (zP (vInt E fLss .lss 3 false false (.v 2) (.v 3))) k)
  (zSeq (zCond (.l 0) zSkip (zExit 0))
  (zSeq (zBlock 1 (zSeq (zReg fun k => (zP (vIndexAddr 2 (.v 4) (.v 2))) ((zL 2 true (.l 0)) ((zStep E (cy Y) ⟨.alloc 77, (.var 5), none, false, 3, (some 0)⟩) ((zV 6 (vMv (.v 2))) ((zStep E (cy Y) ⟨.store 77 (.v 5) (.l 0), .none, none, false, 5, none⟩) k)))))
  (zSeq (zDreg 1 fun n0 k => (zPD (vFieldAddr 0 (.v 5))) ((zLD B21 1 1 false (.l 0)) ((zPD (vInt E fLss .lss 3 false true (.l 0) (.k (.int .i64 0)))) ((zGD (.l 0) false .push (zPD (vFieldAddr 0 (.v 5)))) ((zGD (.l 1) false .push (zLD B21 5 1 false (.l 0))) ((zGD (.l 2) false .push (zPD (vInt E (fGen .geq) .geq 3 false true (.l 0) (.k (.int .i64 4))))) ((zPD (vPick (.l 3) (.k (.bool true)) (.l 0))) ((zGD (.l 0) false .push (zPD (vFieldAddr 1 (.v 5)))) ((zGD (.l 1) false .push (zLD B21 10 1 false (.l 0))) ((zGD (.l 2) false .push (zPD (vInt E fEql .eql 33 false true (.l 0) (.k (.int .u64 0))))) ((zPD (vPick (.l 3) (.k (.bool true)) (.l 0))) ((zGD (.l 0) false .push (zPD (vMv (.v 6)))) ((zGD (.l 1) false .push (zPD (vInt E fGtr .gtr 3 false true (.l 0) (.k (.int .i64 0))))) ((zGD (.l 2) false .push (zPD (vMv (.l 0)))) ((zGD (.l 0) true .push (zPD (vFieldAddr 0 (.v 1)))) ((zGD (.l 1) true .push (zLD B21 18 1 false (.l 0))) ((zGD (.l 2) true .push (zPD (vMv (.v 6)))) ((zGD (.l 3) true .push (zPD (vInt E fSub .sub 3 false true (.l 0) (.k (.int .i64 1))))) ((zGD (.l 4) true .push (zPD (vIndexAddr 2 (.l 2) (.l 0)))) ((zGD (.l 5) true .push (zLD B21 22 2 true (.l 0))) ((zGD (.l 6) true .push (zLD B21 23 2 true (.v 5))) ((zGD (.l 7) true .push (zCallD (cy Y) B21 24 102 [(.l 1), (.l 0)] .push)) ((zGD (.l 8) true .push (zPD (vInt E (fGen .geq) .geq 3 false true (.l 0) (.k (.int .i64 0))))) ((zGD (.l 12) false .push (zPD (vPick (.l 9) (.l 0) (.k (.bool false))))) ((zPD (vPick (.l 13) (.k (.bool true)) (.l 0))) k)))))))))))))))))))))))))
  (zCond (.l 0) (zSeq (zReg fun k => (zV 12 (vMv (.k (.bool false)))) k)
  zRet) zSkip))))
  (zReg fun k => (zP (vInt E fAdd .add 3 false true (.v 2) (.k (.int .i64 1)))) ((zV 2 (vMv (.l 0))) k))))))))
  (zSeq (zReg fun k => (zV 11 (vMv (.k (.sl 0 [] true)))) k)
  (zSeq (zSeq (zReg fun k => (zP (vFieldAddr 1 (.v 1))) ((zDstW (.var 9) (wLoad 1 false (.l 0))) ((zV 8 (vLenL (.v 9))) ((zV 7 (vMv (.k (.int .i64 0)))) k))))
  (zBlock 2 (zLoop fuel (zSeq (zReg fun k => (zP (vInt E fLss .lss 3 false false (.v 7) (.v 8))) k)
  (zSeq (zCond (.l 0) zSkip (zExit 2))
  (zSeq (zBlock 3 (zSeq (zReg fun k => (zP (vIndexAddr 3 (.v 9) (.v 7))) ((zL 3 true (.l 0)) ((zStep E (cy Y) ⟨.alloc 131, (.var 10), none, false, 2, (some 0)⟩) ((zStep E (cy Y) ⟨.store 131 (.v 10) (.l 0), .none, none, false, 3, none⟩) k))))
  (zSeq (zSeq (zReg fun k => (zP (vFieldAddr 0 (.v 10))) ((zL 1 false (.l 0)) ((zP (vInt E fEql .eql 9 false true (.l 0) (.k (.str [])))) ((zG (.l 0) false .push (zP (vFieldAddr 0 (.v 10)))) ((zG (.l 1) false .push (zL 1 false (.l 0))) ((zG (.l 2) false .push (zP (vLenS (.l 0)))) ((zG (.l 3) false .push (zP (vInt E fGtr .gtr 3 false true (.l 0) (.k (.int .i64 8))))) ((zP (vPick (.l 4) (.k (.bool true)) (.l 0))) ((zG (.l 0) false .push (zP (vFieldAddr 1 (.v 10)))) ((zG (.l 1) false .push (zL 1 false (.l 0))) ((zG (.l 2) false .push (zP (vInt E fEql .eql 33 false true (.l 0) (.k (.int .u64 0))))) ((zP (vPick (.l 3) (.k (.bool true)) (.l 0))) ((zG (.l 0) false .push (zP (vFieldAddr 2 (.v 10)))) ((zG (.l 1) false .push (zL 1 false (.l 0))) ((zG (.l 2) false .push (zP (vInt E fLss .lss 33 false true (.l 0) (.k (.int .u64 1))))) ((zP (vPick (.l 3) (.k (.bool true)) (.l 0))) ((zG (.l 0) false .push (zP (vFieldAddr 2 (.v 10)))) ((zG (.l 1) false .push (zL 1 false (.l 0))) ((zG (.l 2) false .push (zP (vInt E fGtr .gtr 33 false true (.l 0) (.k (.int .u64 3))))) ((zP (vPick (.l 3) (.k (.bool true)) (.l 0))) k))))))))))))))))))))
  (zCond (.l 0) (zSeq (zReg fun k => (zV 12 (vMv (.k (.bool false)))) k)
  zRet) zSkip))
  (zReg fun k => (zP (vMv (.v 11))) ((zP (vFieldAddr 0 (.v 10))) ((zL 1 false (.l 0)) ((zStep E (cy Y) ⟨.buildSlice 34 1 [(0, (.l 0))], .push, none, false, 3, (some 0)⟩) ((zStep E (cy Y) ⟨.append 34 34 (.l 3) (.l 0), .push, none, false, 4, (some 1)⟩) ((zV 11 (vMv (.l 0))) k)))))))))
  (zReg fun k => (zP (vInt E fAdd .add 3 false true (.v 7) (.k (.int .i64 1)))) ((zV 7 (vMv (.l 0))) k))))))))
  (zSeq (zReg fun k => (zCall (cy Y) 142 [(.v 11)] .push) ((zG (.l 0) true .push (zP (vMv (.v 11)))) ((zG (.l 1) true .push (zP (vLenL (.l 0)))) ((zG (.l 2) true .push (zP (vInt E (fGen .leq) .leq 3 false true (.l 0) (.k (.int .i64 40))))) ((zP (vPick (.l 3) (.l 0) (.k (.bool false)))) ((zV 12 (vMv (.l 0))) k))))))
  zRet))))), [.tmp (.v 12)]⟩
theorem G80_ok (fn : Nat → Option Func) (pu : Nat → Bool) (pr : Nat → List AV → Option (Heap → Option (Eff × Acc))) : ZOk ⟨Tryz.tyT, fn, pu, pr⟩ npT F80 (G80 ⟨Tryz.tyT, fn, pu, pr⟩) := ⟨by kernel_rfl, by kernel_rfl, by kernel_rfl, fun cy Y k => by kernel_rfl⟩
noncomputable def F81 : FFn := cF LV 0 [1, 13, 12, 11, 0, 8, 2, 9, 6] Tryz.f81
noncomputable def G81 (E : Env) : ZFn := ⟨46, [1, 13, 12, 11, 0, 8, 2, 9, 6], fun cy Y fuel =>
  (zSeq (zReg fun k => (zV 8 (vMv (.k (.bool false)))) k)
  (zSeq (zSeq (zReg fun k => (zV 3 (vMv (.v 0))) ((zV 2 (vLenL (.v 3))) ((zV 1 (vMv (.k (.int .i64 0)))) k)))
  (zBlock 0 (zLoop fuel (zSeq (zReg fun k => (zP (vInt E fLss .lss 3 false false (.v 1) (.v 2))) k)
  (zSeq (zCond (.l 0) zSkip (zExit 0))
  (zSeq (zBlock 1 (zSeq (zReg fun k => (zP (vIndexAddr 6 (.v 3) (.v 1))) ((zL 6 true (.l 0)) ((zStep E (cy Y) ⟨.alloc 122, (.var 5), none, false, 2, (some 0)⟩) ((zStep E (cy Y) ⟨.store 122 (.v 5) (.l 0), .none, none, false, 3, none⟩) k))))
  (zSeq (zReg fun k => (zP (vFieldAddr 0 (.v 5))) ((zL 1 false (.l 0)) ((zStep E (cy Y) ⟨.call 78 [(.v 4), (.l 0)], .push, none, false, 3, (some 0)⟩) ((zP (vExtract 0 (.l 0))) ((zP (vExtract 1 (.l 1))) ((zStep E (cy Y) ⟨.alloc 83, (.var 7), none, false, 7, (some 1)⟩) ((zStep E (cy Y) ⟨.store 83 (.v 7) (.l 1), .none, none, false, 8, none⟩) ((zP (vMv (.l 0))) k))))))))
  (zSeq (zReg fun k => (zP (vFieldAddr 0 (.v 5))) ((zL 1 false (.l 0)) ((zP (vFieldAddr 1 (.v 5))) ((zL 5 true (.l 0)) ((zCall (cy Y) 79 [(.v 4), (.l 2), (.l 0)] .push) ((zP (vNot (.l 0))) ((zG (.l 0) false .push (zP (vMv (.v 6)))) ((zG (.l 1) false .push (zP (vNot (.l 0)))) ((zG (.l 2) false .push (zP (vMv (.l 0)))) ((zG (.l 0) true .push (zP (vFieldAddr 2 (.v 7)))) ((zG (.l 1) true .push (zL 2 true (.l 0))) ((zG (.l 2) true .push (zP (vFieldAddr 1 (.v 5)))) ((zG (.l 3) true .push (zL 5 true (.l 0))) ((zG (.l 4) true .push (zCall (cy Y) 143 [(.l 2), (.l 0)] .push)) ((zG (.l 8) false .push (zP (vPick (.l 5) (.l 0) (.k (.bool false))))) ((zP (vPick (.l 9) (.k (.bool true)) (.l 0))) k))))))))))))))))
  (zCond (.l 0) (zSeq (zReg fun k => (zV 8 (vMv (.k (.bool false)))) k)
  zRet) zSkip)))))
  (zReg fun k => (zP (vInt E fAdd .add 3 false true (.v 1) (.k (.int .i64 1)))) ((zV 1 (vMv (.l 0))) k))))))))
  (zSeq (zReg fun k => (zCall (cy Y) 144 [(.v 4), (.v 0), (.k (.clo 145 []))] .push) ((zV 8 (vMv (.l 0))) k))
  zRet))), [.tmp (.v 8)]⟩
theorem G81_ok (fn : Nat → Option Func) (pu : Nat → Bool) (pr : Nat → List AV → Option (Heap → Option (Eff × Acc))) : ZOk ⟨Tryz.tyT, fn, pu, pr⟩ npT F81 (G81 ⟨Tryz.tyT, fn, pu, pr⟩) := ⟨by kernel_rfl, by kernel_rfl, by kernel_rfl, fun cy Y k => by kernel_rfl⟩
noncomputable def F82 : FFn := cF LV 5 [0, 2, 1, 5, 3, 7, 6] Tryz.f82
noncomputable def G82 (E : Env) : ZFn := ⟨35, [0, 2, 1, 5, 3, 7, 6], fun cy Y fuel =>
  (zSeq (zReg fun k => (zStep E (cy Y) ⟨.box 31 (.v 0), (.var 4), none, false, 0, (some 0)⟩) ((zStep E (cy Y) ⟨.box 154 (.v 1), (.var 3), none, false, 1, (some 1)⟩) ((zStep E (cy Y) ⟨.alloc 4, (.var 6), none, false, 2, (some 2)⟩) k)))
  (zSeq (zReg fun k => (zStep E (cy Y) ⟨.alloc 9, (.var 5), none, false, 0, (some 0)⟩) ((zStep E (cy Y) ⟨.store 9 (.v 5) (.k (.str [])), .none, none, false, 1, none⟩) k))
  (zSeq (zSeq (zReg fun k => (zCall (cy Y) 146 [(.v 2)] .push) k)
  (zBlock 0 (zRange cy Y (.l 0) 5 [none, (some (.v 3)), none, (some (.v 4)), none, none, (some (.v 5)), (some (.v 6))] [none, none, none, (some (.v 4)), none, (some (.v 3)), (some (.v 6)), (some (.v 5)), none, none, none, none, none, none, none, none, none, none, none, none, none, none, none, none, none, none, none, none, none, none, none, none, none, none, none] [14] (codeAt [1, 1, 0, 1, 0, 0] (bodyOf Tryz.f82)) (codeAt [1, 1, 0, 1, 0, 1] (bodyOf Tryz.f82)))))
  (zSeq (zReg fun k => (zP (vLenL (.v 2))) ((zP (vInt E (fGen .leq) .leq 3 false true (.l 0) (.k (.int .i64 24)))) ((zStep E (cy Y) ⟨.store 4 (.v 6) (.l 0), .none, none, false, 3, none⟩) k)))
  zRet)))), [.cell (.v 6) 4]⟩
theorem G82_ok (fn : Nat → Option Func) (pu : Nat → Bool) (pr : Nat → List AV → Option (Heap → Option (Eff × Acc))) : ZOk ⟨Tryz.tyT, fn, pu, pr⟩ npT F82 (G82 ⟨Tryz.tyT, fn, pu, pr⟩) := ⟨by kernel_rfl, by kernel_rfl, by kernel_rfl, fun cy Y k => by kernel_rfl⟩
noncomputable def F84 : FFn := cF LV 0 [0, 1, 2, 6] Tryz.f84
noncomputable def G84 (E : Env) : ZFn := ⟨14, [0, 1, 2, 6], fun cy Y fuel =>
  (zSeq (zReg fun k => (zV 3 (vMv (.k (.bool false)))) k)
  (zSeq (zReg fun k => (zP (vNilCheck (.v 0))) ((zP (vFieldAddr 3 (.l 0))) ((zL 2 true (.l 0)) ((zStep E (cy Y) ⟨.call 147 [(.l 0), (.v 1), (.v 2)], .push, none, false, 6, (some 0)⟩) ((zV 3 (vMv (.l 0))) k)))))
  zRet)), [.tmp (.v 3)]⟩
theorem G84_ok (fn : Nat → Option Func) (pu : Nat → Bool) (pr : Nat → List AV → Option (Heap → Option (Eff × Acc))) : ZOk ⟨Tryz.tyT, fn, pu, pr⟩ npT F84 (G84 ⟨Tryz.tyT, fn, pu, pr⟩) := ⟨by kernel_rfl, by kernel_rfl, by kernel_rfl, fun cy Y k => by kernel_rfl⟩
noncomputable def F85 : FFn := cF LV 0 [0, 4, 3, 2] Tryz.f85
noncomputable def G85 (E : Env) : ZFn := ⟨12, [0, 4, 3, 2], fun cy Y fuel =>
  (zSeq (zReg fun k => (zV 3 (vMv (.k (.int .i64 0)))) k)
  (zSeq (zSeq (zReg fun k => (zStep E (cy Y) ⟨.assert (.v 0) 66 true, .push, none, false, 1, none⟩) ((zP (vExtract 0 (.l 0))) ((zP (vExtract 1 (.l 1))) ((zV 2 (vMv (.l 1))) ((zV 1 (vMv (.l 0))) k)))))
  (zSeq (zReg fun k => k)
  (zCond (.v 1) (zSeq (zReg fun k => (zV 3 (vMv (.v 2))) k)
  zRet) zSkip)))
  (zSeq (zReg fun k => (zV 3 (vMv (.k (.int .i64 0)))) k)
  zRet))), [.tmp (.v 3)]⟩
theorem G85_ok (fn : Nat → Option Func) (pu : Nat → Bool) (pr : Nat → List AV → Option (Heap → Option (Eff × Acc))) : ZOk ⟨Tryz.tyT, fn, pu, pr⟩ npT F85 (G85 ⟨Tryz.tyT, fn, pu, pr⟩) := ⟨by kernel_rfl, by kernel_rfl, by kernel_rfl, fun cy Y k => by kernel_rfl⟩
noncomputable def F86 : FFn := cF LV 0 [1, 0, 3, 7, 6, 11, 8, 10, 5, 12, 4] Tryz.f86
noncomputable def G86 (E : Env) : ZFn := ⟨99, [1, 0, 3, 7, 6, 11, 8, 10, 5, 12, 4], fun cy Y fuel =>
  (zSeq (zReg fun k => (zStep E (cy Y) ⟨.box 122 (.v 0), (.var 2), none, false, 0, (some 0)⟩) ((zV 10 (vMv (.k .nilIface))) k))
  (zSeq (zDreg 2 fun n0 k => (zPD (vNilCheck (.v 1))) ((zPD (vFieldAddr 2 (.l 0))) ((zLD B22 3 1 false (.l 0)) ((zPD (vFieldAddr 0 (.v 2))) ((zLD B22 5 1 false (.l 0)) ((zCallD (cy Y) B22 6 14 [(.l 2), (.l 0)] .push) ((zStepD E (cy Y) B22 n0 ⟨.alloc 38, (.var 8), none, false, 7, (some 1)⟩) ((zStepD E (cy Y) B22 n0 ⟨.store 38 (.v 8) (.l 0), .none, none, false, 8, none⟩) k))))))))
  (zSeq (zDreg 1 fun n0 k => (zPD (vNilCheck (.v 1))) ((zPD (vFieldAddr 2 (.l 0))) ((zLD B23 3 1 false (.l 0)) ((zPD (vFieldAddr 0 (.v 2))) ((zLD B23 5 1 false (.l 0)) ((zPD (vFieldAddr 1 (.v 2))) ((zLD B23 7 5 true (.l 0)) ((zCallD (cy Y) B23 8 148 [(.l 4), (.l 2), (.l 0)] .push) ((zPD (vExtract 0 (.l 0))) ((zPD (vExtract 1 (.l 1))) ((zVD 4 (vMv (.l 1))) ((zVD 3 (vMv (.l 0))) k))))))))))))
  (zSeq (zSeq (zReg fun k => (zP (vInt E fNeq .neq 55 false true (.v 3) (.k .nilIface))) ((zG (.l 0) false .push (zP (vMv (.v 4)))) ((zG (.l 1) false .push (zP (vNot (.l 0)))) ((zP (vPick (.l 2) (.k (.bool true)) (.l 0))) k))))
  (zCond (.l 0) (zSeq (zReg fun k => (zV 10 (vMv (.v 3))) k)
  zRet) zSkip))
  (zSeq (zDreg 2 fun n0 k => (zPD (vNilCheck (.v 1))) ((zPD (vFieldAddr 1 (.l 0))) ((zLD B24 3 1 false (.l 0)) ((zPD (vFieldAddr 0 (.v 2))) ((zLD B24 5 1 false (.l 0)) ((zStepD E (cy Y) B24 n0 ⟨.call 78 [(.l 2), (.l 0)], .push, none, false, 6, (some 0)⟩) ((zPD (vExtract 0 (.l 0))) ((zPD (vExtract 1 (.l 1))) ((zStepD E (cy Y) B24 n0 ⟨.alloc 83, (.var 6), none, false, 10, (some 1)⟩) ((zStepD E (cy Y) B24 n0 ⟨.store 83 (.v 6) (.l 1), .none, none, false, 11, none⟩) ((zPD (vMv (.l 0))) k)))))))))))
  (zSeq (zDreg 1 fun n0 k => (zPD (vNilCheck (.v 1))) ((zPD (vFieldAddr 6 (.l 0))) ((zLD B24 3 1 false (.l 0)) ((zPD (vFieldAddr 0 (.v 2))) ((zLD B24 5 1 false (.l 0)) ((zStepD E (cy Y) B24 n0 ⟨.lookup 88 (.l 2) (.l 0) true, .push, none, false, 6, none⟩) ((zPD (vExtract 0 (.l 0))) ((zPD (vExtract 1 (.l 1))) ((zStepD E (cy Y) B24 n0 ⟨.alloc 38, (.var 7), none, false, 10, (some 0)⟩) ((zStepD E (cy Y) B24 n0 ⟨.store 38 (.v 7) (.l 1), .none, none, false, 11, none⟩) ((zVD 5 (vMv (.l 0))) k)))))))))))
  (zSeq (zSeq (zReg fun k => (zP (vNot (.v 5))) k)
  (zCond (.l 0) (zReg fun k => (zP (vFieldAddr 2 (.v 6))) ((zL 2 true (.l 0)) ((zStep E (cy Y) ⟨.call 95 [(.l 0)], .push, none, false, 2, (some 0)⟩) ((zStep E (cy Y) ⟨.store 38 (.v 7) (.l 0), .none, none, false, 3, none⟩) k)))) zSkip))
  (zSeq (zReg fun k => (zP (vFieldAddr 2 (.v 6))) ((zL 2 true (.l 0)) ((zL 5 true (.v 8)) ((zP (vFieldAddr 1 (.v 2))) ((zL 5 true (.l 0)) ((zCall (cy Y) 149 [(.l 3), (.l 2), (.l 0)] .push) ((zP (vExtract 0 (.l 0))) ((zP (vExtract 1 (.l 1))) ((zStep E (cy Y) ⟨.alloc 38, (.var 9), none, false, 9, (some 1)⟩) ((zStep E (cy Y) ⟨.store 38 (.v 9) (.l 1), .none, none, false, 10, none⟩) ((zV 3 (vMv (.l 0))) k)))))))))))
  (zSeq (zSeq (zReg fun k => (zP (vInt E fEql .eql 55 false true (.v 3) (.k .nilIface))) k)
  (zCond (.l 0) (zReg fun k => (zP (vFieldAddr 2 (.v 6))) ((zL 2 true (.l 0)) ((zL 5 true (.v 7)) ((zL 5 true (.v 9)) ((zCall (cy Y) 150 [(.l 2), (.l 1), (.l 0)] .push) ((zP (vExtract 0 (.l 0))) ((zP (vExtract 1 (.l 1))) ((zStep E (cy Y) ⟨.store 38 (.v 9) (.l 1), .none, none, false, 8, none⟩) ((zV 3 (vMv (.l 0))) k))))))))) zSkip))
  (zSeq (zSeq (zReg fun k => (zP (vInt E fNeq .neq 55 false true (.v 3) (.k .nilIface))) k)
  (zCond (.l 0) (zDreg 1 fun n0 k => (zPD (vNilCheck (.v 1))) ((zPD (vFieldAddr 2 (.l 0))) ((zLD B16 3 1 false (.l 0)) ((zPD (vFieldAddr 0 (.v 2))) ((zLD B16 5 1 false (.l 0)) ((zCallD (cy Y) B16 6 14 [(.l 2), (.l 0)] .push) ((zStepD E (cy Y) B16 n0 ⟨.store 38 (.v 9) (.l 0), .none, none, false, 7, none⟩) k))))))) zSkip))
  (zSeq (zDreg 0 fun n0 k => (zPD (vNilCheck (.v 1))) ((zPD (vFieldAddr 6 (.l 0))) ((zLD B25 3 1 false (.l 0)) ((zPD (vFieldAddr 0 (.v 2))) ((zLD B25 5 1 false (.l 0)) ((zLD B25 6 5 true (.v 9)) ((zStepD E (cy Y) B25 n0 ⟨.mapUp 88 (.l 3) (.l 1) (.l 0), .none, none, false, 7, none⟩) k)))))))
  (zSeq (zReg fun k => (zV 10 (vMv (.k .nilIface))) k)
  zRet)))))))))))), [.tmp (.v 10)]⟩
theorem G86_ok (fn : Nat → Option Func) (pu : Nat → Bool) (pr : Nat → List AV → Option (Heap → Option (Eff × Acc))) : ZOk ⟨Tryz.tyT, fn, pu, pr⟩ npT F86 (G86 ⟨Tryz.tyT, fn, pu, pr⟩) := ⟨by kernel_rfl, by kernel_rfl, by kernel_rfl, fun cy Y k => by kernel_rfl⟩
noncomputable def F87 : FFn := cF LV 0 [0, 1] Tryz.f87
noncomputable def G87 (E : Env) : ZFn := ⟨9, [0, 1], fun cy Y fuel =>
  (zReg fun k => (zP (vNilCheck (.v 0))) ((zP (vFieldAddr 0 (.l 0))) ((zCall (cy Y) 151 [(.l 0), (.v 1), (.k (.int .i64 24))] .push) k))), []⟩
theorem G87_ok (fn : Nat → Option Func) (pu : Nat → Bool) (pr : Nat → List AV → Option (Heap → Option (Eff × Acc))) : ZOk ⟨Tryz.tyT, fn, pu, pr⟩ npT F87 (G87 ⟨Tryz.tyT, fn, pu, pr⟩) := ⟨by kernel_rfl, by kernel_rfl, by kernel_rfl, fun cy Y k => by kernel_rfl⟩
noncomputable def F88 : FFn := cF LV 0 [1, 3, 0] Tryz.f88
noncomputable def G88 (E : Env) : ZFn := ⟨22, [1, 3, 0], fun cy Y fuel =>
  (zSeq (zReg fun k => (zStep E (cy Y) ⟨.box 26 (.v 0), (.var 1), none, false, 0, (some 0)⟩) k)
  (zSeq (zDreg 1 fun n0 k => (zLD B26 0 2 true (.v 1)) ((zPD (vNilCheck (.v 2))) ((zPD (vFieldAddr 3 (.l 0))) ((zLD B26 4 2 true (.l 0)) ((zStepD E (cy Y) B26 n0 ⟨.call 137 [(.l 3), (.l 0)], .push, none, false, 5, (some 0)⟩) ((zPD (vNot (.l 0))) k))))))
  (zCond (.l 0) (zDreg 0 fun n0 k => (zLD B27 2 2 true (.v 1)) ((zPD (vNilCheck (.v 2))) ((zPD (vFieldAddr 7 (.l 0))) ((zLD B27 6 1 false (.l 0)) ((zPD (vNilCheck (.v 2))) ((zPD (vFieldAddr 3 (.l 0))) ((zStepD E (cy Y) B27 n0 ⟨.store 26 (.l 0) (.l 5), .none, none, false, 9, none⟩) ((zPD (vNilCheck (.v 2))) ((zPD (vFieldAddr 8 (.l 0))) ((zStepD E (cy Y) B27 n0 ⟨.store 33 (.l 0) (.l 4), .none, none, false, 12, none⟩) k)))))))))) zSkip))), []⟩
theorem G88_ok (fn : Nat → Option Func) (pu : Nat → Bool) (pr : Nat → List AV → Option (Heap → Option (Eff × Acc))) : ZOk ⟨Tryz.tyT, fn, pu, pr⟩ npT F88 (G88 ⟨Tryz.tyT, fn, pu, pr⟩) := ⟨by kernel_rfl, by kernel_rfl, by kernel_rfl, fun cy Y k => by kernel_rfl⟩
noncomputable def F92 : FFn := cF LV 0 [0] Tryz.f92
noncomputable def G92 (E : Env) : ZFn := ⟨10, [0], fun cy Y fuel =>
  (zReg fun k => (zP (vNilCheck (.v 0))) ((zP (vFieldAddr 0 (.l 0))) ((zL 1 false (.l 0)) ((zP (vLenS (.l 0))) ((zP (vNilCheck (.v 0))) ((zP (vFieldAddr 1 (.l 0))) ((zStep E (cy Y) ⟨.store 3 (.l 0) (.l 2), .none, none, false, 8, none⟩) k))))))), []⟩
theorem G92_ok (fn : Nat → Option Func) (pu : Nat → Bool) (pr : Nat → List AV → Option (Heap → Option (Eff × Acc))) : ZOk ⟨Tryz.tyT, fn, pu, pr⟩ npT F92 (G92 ⟨Tryz.tyT, fn, pu, pr⟩) := ⟨by kernel_rfl, by kernel_rfl, by kernel_rfl, fun cy Y k => by kernel_rfl⟩
noncomputable def F95 : FFn := cF LV 0 [0, 1, 2] Tryz.f95
noncomputable def G95 (E : Env) : ZFn := ⟨9, [0, 1, 2], fun cy Y fuel =>
  (zSeq (zReg fun k => (zStep E (cy Y) ⟨.box 81 (.v 0), (.var 1), none, false, 0, (some 0)⟩) ((zStep E (cy Y) ⟨.alloc 38, (.var 2), none, false, 1, (some 1)⟩) k))
  (zSeq (zSeq (zReg fun k => (zL 2 true (.v 1)) ((zCall (cy Y) 158 [(.l 0)] .push) ((zP (vNot (.l 0))) k)))
  (zCond (.l 0) (zSeq (zReg fun k => (zStep E (cy Y) ⟨.build 38 [], .push, none, false, 0, none⟩) ((zStep E (cy Y) ⟨.store 38 (.v 2) (.l 0), .none, none, false, 1, none⟩) k))
  zRet) zSkip))
  (zSeq (zReg fun k => (zL 2 true (.v 1)) ((zCall (cy Y) 159 [(.l 0)] .push) ((zStep E (cy Y) ⟨.store 38 (.v 2) (.l 0), .none, none, false, 2, none⟩) k)))
  zRet))), [.cell (.v 2) 38]⟩
theorem G95_ok (fn : Nat → Option Func) (pu : Nat → Bool) (pr : Nat → List AV → Option (Heap → Option (Eff × Acc))) : ZOk ⟨Tryz.tyT, fn, pu, pr⟩ npT F95 (G95 ⟨Tryz.tyT, fn, pu, pr⟩) := ⟨by kernel_rfl, by kernel_rfl, by kernel_rfl, fun cy Y k => by kernel_rfl⟩
noncomputable def F96 : FFn := cF LV 0 [0, 1, 18, 17, 16, 9, 11, 2, 13, 12, 3, 8] Tryz.f96
noncomputable def G96 (E : Env) : ZFn := ⟨47, [0, 1, 18, 17, 16, 9, 11, 2, 13, 12, 3, 8], fun cy Y fuel =>
  (zSeq (zReg fun k => (zV 11 (vMv (.k (.sl 0 [] true)))) k)
  (zSeq (zReg fun k => (zStep E (cy Y) ⟨.call 69 [(.v 0)], .push, none, false, 1, (some 0)⟩) ((zV 5 (vMv (.l 0))) k))
  (zSeq (zSeq (zReg fun k => (zV 4 (vMv (.v 1))) ((zV 3 (vLenL (.v 4))) ((zV 2 (vMv (.k (.int .i64 0)))) k)))
  (zBlock 0 (zLoop fuel (zSeq (zReg fun k => (zP (vInt E fLss .lss 3 false false (.v 2) (.v 3))) k)
  (zSeq (zCond (.l 0) zSkip (zExit 0))
  (zSeq (zBlock 1 (zSeq (zReg fun k => (zP (vIndexAddr 3 (.v 4) (.v 2))) ((zL 3 true (.l 0)) ((zStep E (cy Y) ⟨.alloc 131, (.var 6), none, false, 2, (some 0)⟩) ((zStep E (cy Y) ⟨.store 131 (.v 6) (.l 0), .none, none, false, 3, none⟩) k))))
  (zSeq (zReg fun k => (zL 3 true (.v 6)) ((zCall (cy Y) 160 [(.v 5), (.l 0), (.v 7)] .push) ((zP (vExtract 0 (.l 0))) ((zP (vExtract 1 (.l 1))) ((zV 9 (vMv (.l 1))) ((zV 8 (vMv (.l 0))) k))))))
  (zSeq (zReg fun k => k)
  (zCond (.v 8) (zDreg 1 fun n0 k => (zPD (vIndexAddr 3 (.v 5) (.v 9))) ((zLD B28 6 3 true (.l 0)) ((zLD B28 7 3 true (.v 6)) ((zStepD E (cy Y) B28 n0 ⟨.callv (.v 10) [(.l 1), (.l 0)], .push, none, false, 8, (some 0)⟩) ((zPD (vIndexAddr 3 (.v 5) (.v 9))) ((zStepD E (cy Y) B28 n0 ⟨.store 131 (.l 0) (.l 1), .none, none, false, 10, none⟩) k)))))) (zReg fun k => (zP (vMv (.v 5))) ((zL 3 true (.v 6)) ((zStep E (cy Y) ⟨.buildSlice 24 1 [(0, (.l 0))], .push, none, false, 3, (some 0)⟩) ((zStep E (cy Y) ⟨.call 161 [(.l 2), (.v 9), (.l 0)], .push, none, false, 4, (some 1)⟩) ((zV 5 (vMv (.l 0))) k))))))))))
  (zReg fun k => (zP (vInt E fAdd .add 3 false true (.v 2) (.k (.int .i64 1)))) ((zV 2 (vMv (.l 0))) k))))))))
  (zSeq (zReg fun k => (zV 11 (vMv (.v 5))) k)
  zRet)))), [.tmp (.v 11)]⟩
theorem G96_ok (fn : Nat → Option Func) (pu : Nat → Bool) (pr : Nat → List AV → Option (Heap → Option (Eff × Acc))) : ZOk ⟨Tryz.tyT, fn, pu, pr⟩ npT F96 (G96 ⟨Tryz.tyT, fn, pu, pr⟩) := ⟨by kernel_rfl, by kernel_rfl, by kernel_rfl, fun cy Y k => by kernel_rfl⟩
noncomputable def F97 : FFn := cF LV 0 [0, 1, 2, 3, 4] Tryz.f97
noncomputable def G97 (E : Env) : ZFn := ⟨10, [0, 1, 2, 3, 4], fun cy Y fuel =>
  (zSeq (zReg fun k => (zStep E (cy Y) ⟨.box 131 (.v 0), (.var 2), none, false, 0, (some 0)⟩) ((zStep E (cy Y) ⟨.box 131 (.v 1), (.var 3), none, false, 1, (some 1)⟩) ((zV 4 (vMv (.k (.int .i64 0)))) k)))
  (zSeq (zReg fun k => (zP (vFieldAddr 0 (.v 2))) ((zL 1 false (.l 0)) ((zP (vFieldAddr 0 (.v 3))) ((zL 1 false (.l 0)) ((zCall (cy Y) 162 [(.l 2), (.l 0)] .push) ((zV 4 (vMv (.l 0))) k))))))
  zRet)), [.tmp (.v 4)]⟩
theorem G97_ok (fn : Nat → Option Func) (pu : Nat → Bool) (pr : Nat → List AV → Option (Heap → Option (Eff × Acc))) : ZOk ⟨Tryz.tyT, fn, pu, pr⟩ npT F97 (G97 ⟨Tryz.tyT, fn, pu, pr⟩) := ⟨by kernel_rfl, by kernel_rfl, by kernel_rfl, fun cy Y k => by kernel_rfl⟩
noncomputable def F98 : FFn := cF LV 0 [0, 1, 2, 3, 4] Tryz.f98
noncomputable def G98 (E : Env) : ZFn := ⟨20, [0, 1, 2, 3, 4], fun cy Y fuel =>
  (zSeq (zReg fun k => (zStep E (cy Y) ⟨.box 131 (.v 0), (.var 2), none, false, 0, (some 0)⟩) ((zStep E (cy Y) ⟨.box 131 (.v 1), (.var 3), none, false, 1, (some 1)⟩) ((zStep E (cy Y) ⟨.alloc 131, (.var 4), none, false, 2, (some 2)⟩) k)))
  (zSeq (zSeq (zDreg 4 fun n0 k => (zPD (vFieldAddr 1 (.v 2))) ((zLD B29 1 1 false (.l 0)) ((zPD (vFieldAddr 1 (.v 3))) ((zLD B29 3 1 false (.l 0)) ((zCallD (cy Y) B29 4 100 [(.l 2), (.l 0)] .push) ((zPD (vFieldAddr 2 (.v 2))) ((zLD B29 6 1 false (.l 0)) ((zPD (vFieldAddr 2 (.v 3))) ((zLD B29 8 1 false (.l 0)) ((zCallD (cy Y) B29 9 100 [(.l 2), (.l 0)] .push) ((zStepD E (cy Y) B29 n0 ⟨.buildSlice 98 2 [(0, (.l 5)), (1, (.l 0))], .push, none, false, 10, (some 2)⟩) ((zCallD (cy Y) B29 11 99 [(.l 0)] .push) ((zPD (vInt E fLss .lss 3 false true (.l 0) (.k (.int .i64 0)))) k)))))))))))))
  (zCond (.l 0) (zSeq (zReg fun k => (zL 3 true (.v 3)) ((zStep E (cy Y) ⟨.store 131 (.v 4) (.l 0), .none, none, false, 1, none⟩) k))
  zRet) zSkip))
  (zSeq (zReg fun k => (zL 3 true (.v 2)) ((zStep E (cy Y) ⟨.store 131 (.v 4) (.l 0), .none, none, false, 1, none⟩) k))
  zRet))), [.cell (.v 4) 131]⟩
theorem G98_ok (fn : Nat → Option Func) (pu : Nat → Bool) (pr : Nat → List AV → Option (Heap → Option (Eff × Acc))) : ZOk ⟨Tryz.tyT, fn, pu, pr⟩ npT F98 (G98 ⟨Tryz.tyT, fn, pu, pr⟩) := ⟨by kernel_rfl, by kernel_rfl, by kernel_rfl, fun cy Y k => by kernel_rfl⟩
noncomputable def F99 : FFn := cF LV 0 [0, 8, 7, 6, 5, 3, 2] Tryz.f99
noncomputable def G99 (E : Env) : ZFn := ⟨18, [0, 8, 7, 6, 5, 3, 2], fun cy Y fuel =>
  (zSeq (zReg fun k => (zV 6 (vMv (.k (.int .i64 0)))) k)
  (zSeq (zReg fun k => (zV 5 (vMv (.k (.int .i64 0)))) k)
  (zSeq (zSeq (zReg fun k => (zV 3 (vMv (.v 0))) ((zV 2 (vLenL (.v 3))) ((zV 1 (vMv (.k (.int .i64 0)))) k)))
  (zBlock 0 (zLoop fuel (zSeq (zReg fun k => (zP (vInt E fLss .lss 3 false false (.v 1) (.v 2))) k)
  (zSeq (zCond (.l 0) zSkip (zExit 0))
  (zSeq (zBlock 1 (zSeq (zReg fun k => (zP (vIndexAddr 1 (.v 3) (.v 1))) ((zL 1 false (.l 0)) ((zV 4 (vMv (.l 0))) k)))
  (zSeq (zReg fun k => (zP (vInt E fNeq .neq 3 false false (.v 4) (.v 5))) k)
  (zCond (.l 0) (zSeq (zReg fun k => (zV 6 (vMv (.v 4))) k)
  zRet) zSkip))))
  (zReg fun k => (zP (vInt E fAdd .add 3 false true (.v 1) (.k (.int .i64 1)))) ((zV 1 (vMv (.l 0))) k))))))))
  (zSeq (zReg fun k => (zV 6 (vMv (.v 5))) k)
  zRet)))), [.tmp (.v 6)]⟩
theorem G99_ok (fn : Nat → Option Func) (pu : Nat → Bool) (pr : Nat → List AV → Option (Heap → Option (Eff × Acc))) : ZOk ⟨Tryz.tyT, fn, pu, pr⟩ npT F99 (G99 ⟨Tryz.tyT, fn, pu, pr⟩) := ⟨by kernel_rfl, by kernel_rfl, by kernel_rfl, fun cy Y k => by kernel_rfl⟩
noncomputable def F100 : FFn := cF LV 0 [0, 1, 5, 6, 4] Tryz.f100
noncomputable def G100 (E : Env) : ZFn := ⟨20, [0, 1, 5, 6, 4], fun cy Y fuel =>
  (zSeq (zReg fun k => (zV 4 (vMv (.k (.int .i64 0)))) k)
  (zSeq (zReg fun k => (zCall (cy Y) 163 [(.v 0)] .push) ((zV 2 (vMv (.l 0))) k))
  (zSeq (zReg fun k => (zCall (cy Y) 163 [(.v 1)] .push) ((zV 3 (vMv (.l 0))) k))
  (zSeq (zSeq (zReg fun k => k)
  (zCond (.v 2) (zSeq (zSeq (zReg fun k => k)
  (zCond (.v 3) (zSeq (zReg fun k => (zV 4 (vMv (.k (.int .i64 0)))) k)
  zRet) zSkip))
  (zSeq (zReg fun k => (zV 4 (vMv (.k (.int .i64 (-1))))) k)
  zRet)) zSkip))
  (zSeq (zSeq (zReg fun k => k)
  (zCond (.v 3) (zSeq (zReg fun k => (zV 4 (vMv (.k (.int .i64 1)))) k)
  zRet) zSkip))
  (zSeq (zSeq (zReg fun k => (zP (vInt E fLss .lss 33 false false (.v 0) (.v 1))) k)
  (zCond (.l 0) (zSeq (zReg fun k => (zV 4 (vMv (.k (.int .i64 (-1))))) k)
  zRet) zSkip))
  (zSeq (zSeq (zReg fun k => (zP (vInt E fGtr .gtr 33 false false (.v 0) (.v 1))) k)
  (zCond (.l 0) (zSeq (zReg fun k => (zV 4 (vMv (.k (.int .i64 1)))) k)
  zRet) zSkip))
  (zSeq (zReg fun k => (zV 4 (vMv (.k (.int .i64 0)))) k)
  zRet)))))))), [.tmp (.v 4)]⟩
theorem G100_ok (fn : Nat → Option Func) (pu : Nat → Bool) (pr : Nat → List AV → Option (Heap → Option (Eff × Acc))) : ZOk ⟨Tryz.tyT, fn, pu, pr⟩ npT F100 (G100 ⟨Tryz.tyT, fn, pu, pr⟩) := ⟨by kernel_rfl, by kernel_rfl, by kernel_rfl, fun cy Y k => by kernel_rfl⟩
noncomputable def F101 : FFn := cF LV 0 [0, 1, 18, 17, 16, 9, 11, 2, 13, 12, 3, 8] Tryz.f101
noncomputable def G101 (E : Env) : ZFn := ⟨47, [0, 1, 18, 17, 16, 9, 11, 2, 13, 12, 3, 8], fun cy Y fuel =>
  (zSeq (zReg fun k => (zV 11 (vMv (.k (.sl 0 [] true)))) k)
  (zSeq (zReg fun k => (zStep E (cy Y) ⟨.call 68 [(.v 0)], .push, none, false, 1, (some 0)⟩) ((zV 5 (vMv (.l 0))) k))
  (zSeq (zSeq (zReg fun k => (zV 4 (vMv (.v 1))) ((zV 3 (vLenL (.v 4))) ((zV 2 (vMv (.k (.int .i64 0)))) k)))
  (zBlock 0 (zLoop fuel (zSeq (zReg fun k => (zP (vInt E fLss .lss 3 false false (.v 2) (.v 3))) k)
  (zSeq (zCond (.l 0) zSkip (zExit 0))
  (zSeq (zBlock 1 (zSeq (zReg fun k => (zP (vIndexAddr 2 (.v 4) (.v 2))) ((zL 2 true (.l 0)) ((zStep E (cy Y) ⟨.alloc 77, (.var 6), none, false, 2, (some 0)⟩) ((zStep E (cy Y) ⟨.store 77 (.v 6) (.l 0), .none, none, false, 3, none⟩) k))))
  (zSeq (zReg fun k => (zL 2 true (.v 6)) ((zCall (cy Y) 164 [(.v 5), (.l 0), (.v 7)] .push) ((zP (vExtract 0 (.l 0))) ((zP (vExtract 1 (.l 1))) ((zV 9 (vMv (.l 1))) ((zV 8 (vMv (.l 0))) k))))))
  (zSeq (zReg fun k => k)
  (zCond (.v 8) (zDreg 1 fun n0 k => (zPD (vIndexAddr 2 (.v 5) (.v 9))) ((zLD B28 6 2 true (.l 0)) ((zLD B28 7 2 true (.v 6)) ((zStepD E (cy Y) B28 n0 ⟨.callv (.v 10) [(.l 1), (.l 0)], .push, none, false, 8, (some 0)⟩) ((zPD (vIndexAddr 2 (.v 5) (.v 9))) ((zStepD E (cy Y) B28 n0 ⟨.store 77 (.l 0) (.l 1), .none, none, false, 10, none⟩) k)))))) (zReg fun k => (zP (vMv (.v 5))) ((zL 2 true (.v 6)) ((zStep E (cy Y) ⟨.buildSlice 23 1 [(0, (.l 0))], .push, none, false, 3, (some 0)⟩) ((zCall (cy Y) 165 [(.l 2), (.v 9), (.l 0)] .push) ((zV 5 (vMv (.l 0))) k))))))))))
  (zReg fun k => (zP (vInt E fAdd .add 3 false true (.v 2) (.k (.int .i64 1)))) ((zV 2 (vMv (.l 0))) k))))))))
  (zSeq (zReg fun k => (zV 11 (vMv (.v 5))) k)
  zRet)))), [.tmp (.v 11)]⟩
theorem G101_ok (fn : Nat → Option Func) (pu : Nat → Bool) (pr : Nat → List AV → Option (Heap → Option (Eff × Acc))) : ZOk ⟨Tryz.tyT, fn, pu, pr⟩ npT F101 (G101 ⟨Tryz.tyT, fn, pu, pr⟩) := ⟨by kernel_rfl, by kernel_rfl, by kernel_rfl, fun cy Y k => by kernel_rfl⟩
noncomputable def F102 : FFn := cF LV 0 [0, 1, 2, 3, 4] Tryz.f102
noncomputable def G102 (E : Env) : ZFn := ⟨10, [0, 1, 2, 3, 4], fun cy Y fuel =>
  (zSeq (zReg fun k => (zStep E (cy Y) ⟨.box 77 (.v 0), (.var 2), none, false, 0, (some 0)⟩) ((zStep E (cy Y) ⟨.box 77 (.v 1), (.var 3), none, false, 1, (some 1)⟩) ((zV 4 (vMv (.k (.int .i64 0)))) k)))
  (zSeq (zReg fun k => (zP (vFieldAddr 0 (.v 2))) ((zL 1 false (.l 0)) ((zP (vFieldAddr 0 (.v 3))) ((zL 1 false (.l 0)) ((zCall (cy Y) 166 [(.l 2), (.l 0)] .push) ((zV 4 (vMv (.l 0))) k))))))
  zRet)), [.tmp (.v 4)]⟩
theorem G102_ok (fn : Nat → Option Func) (pu : Nat → Bool) (pr : Nat → List AV → Option (Heap → Option (Eff × Acc))) : ZOk ⟨Tryz.tyT, fn, pu, pr⟩ npT F102 (G102 ⟨Tryz.tyT, fn, pu, pr⟩) := ⟨by kernel_rfl, by kernel_rfl, by kernel_rfl, fun cy Y k => by kernel_rfl⟩
noncomputable def F103 : FFn := cF LV 0 [0, 1, 2, 3, 4] Tryz.f103
noncomputable def G103 (E : Env) : ZFn := ⟨13, [0, 1, 2, 3, 4], fun cy Y fuel =>
  (zSeq (zReg fun k => (zStep E (cy Y) ⟨.box 77 (.v 0), (.var 2), none, false, 0, (some 0)⟩) ((zStep E (cy Y) ⟨.box 77 (.v 1), (.var 3), none, false, 1, (some 1)⟩) ((zStep E (cy Y) ⟨.alloc 77, (.var 4), none, false, 2, (some 2)⟩) k)))
  (zSeq (zReg fun k => (zP (vFieldAddr 0 (.v 2))) ((zL 1 false (.l 0)) ((zP (vFieldAddr 1 (.v 2))) ((zL 1 false (.l 0)) ((zP (vFieldAddr 1 (.v 3))) ((zL 1 false (.l 0)) ((zStep E (cy Y) ⟨.most true [(.l 2), (.l 0)], .push, none, false, 6, none⟩) ((zStep E (cy Y) ⟨.build 77 [(0, (.l 5)), (1, (.l 0))], .push, none, false, 7, none⟩) ((zStep E (cy Y) ⟨.store 77 (.v 4) (.l 0), .none, none, false, 8, none⟩) k)))))))))
  zRet)), [.cell (.v 4) 77]⟩
theorem G103_ok (fn : Nat → Option Func) (pu : Nat → Bool) (pr : Nat → List AV → Option (Heap → Option (Eff × Acc))) : ZOk ⟨Tryz.tyT, fn, pu, pr⟩ npT F103 (G103 ⟨Tryz.tyT, fn, pu, pr⟩) := ⟨by kernel_rfl, by kernel_rfl, by kernel_rfl, fun cy Y k => by kernel_rfl⟩
noncomputable def F104 : FFn := cF LV 0 [0, 2, 1, 4] Tryz.f104
noncomputable def G104 (E : Env) : ZFn := ⟨12, [0, 2, 1, 4], fun cy Y fuel =>
  (zSeq (zReg fun k => (zStep E (cy Y) ⟨.box 26 (.v 0), (.var 1), none, false, 0, (some 0)⟩) ((zV 3 (vMv (.k (.sl 0 [] true)))) k))
  (zSeq (zDreg 3 fun n0 k => (zLD B30 0 2 true (.v 1)) ((zCallD (cy Y) B30 1 121 [(.l 0)] .push) ((zLD B30 3 2 true (.v 1)) ((zCallD (cy Y) B30 5 117 [(.l 0), (.v 2)] .push) ((zCallD (cy Y) B30 6 167 [(.l 2), (.v 2), (.l 0)] .push) ((zVD 3 (vMv (.l 0))) k))))))
  zRet)), [.tmp (.v 3)]⟩
theorem G104_ok (fn : Nat → Option Func) (pu : Nat → Bool) (pr : Nat → List AV → Option (Heap → Option (Eff × Acc))) : ZOk ⟨Tryz.tyT, fn, pu, pr⟩ npT F104 (G104 ⟨Tryz.tyT, fn, pu, pr⟩) := ⟨by kernel_rfl, by kernel_rfl, by kernel_rfl, fun cy Y k => by kernel_rfl⟩
noncomputable def F107 : FFn := cF LV 0 [0, 1, 2] Tryz.f107
noncomputable def G107 (E : Env) : ZFn := ⟨4, [0, 1, 2], fun cy Y fuel =>
  (zSeq (zReg fun k => (zStep E (cy Y) ⟨.box 34 (.v 0), (.var 1), none, false, 0, (some 0)⟩) ((zV 2 (vMv (.k .nilFunc))) k))
  (zSeq (zReg fun k => (zStep E (cy Y) ⟨.mkFunc 169 [(.v 1)], .push, none, false, 0, none⟩) ((zV 2 (vMv (.l 0))) k))
  zRet)), [.tmp (.v 2)]⟩
theorem G107_ok (fn : Nat → Option Func) (pu : Nat → Bool) (pr : Nat → List AV → Option (Heap → Option (Eff × Acc))) : ZOk ⟨Tryz.tyT, fn, pu, pr⟩ npT F107 (G107 ⟨Tryz.tyT, fn, pu, pr⟩) := ⟨by kernel_rfl, by kernel_rfl, by kernel_rfl, fun cy Y k => by kernel_rfl⟩
noncomputable def F111 : FFn := cF LV 6 [0, 2, 4, 5, 1, 6] Tryz.f111
noncomputable def G111 (E : Env) : ZFn := ⟨33, [0, 2, 4, 5, 1, 6], fun cy Y fuel =>
  (zSeq (zReg fun k => (zStep E (cy Y) ⟨.box 81 (.v 0), (.var 1), none, false, 0, (some 0)⟩) ((zStep E (cy Y) ⟨.alloc 38, (.var 2), none, false, 1, (some 1)⟩) ((zStep E (cy Y) ⟨.alloc 55, (.var 3), none, false, 2, (some 2)⟩) k)))
  (zSeq (zSeq (zReg fun k => (zL 2 true (.v 1)) ((zCall (cy Y) 158 [(.l 0)] .push) ((zP (vNot (.l 0))) k)))
  (zCond (.l 0) (zSeq (zReg fun k => (zStep E (cy Y) ⟨.build 38 [], .push, none, false, 0, none⟩) ((zStep E (cy Y) ⟨.mkIface 66 (.k (.int .i64 14)), .push, none, false, 1, none⟩) ((zStep E (cy Y) ⟨.store 38 (.v 2) (.l 1), .none, none, false, 2, none⟩) ((zStep E (cy Y) ⟨.store 55 (.v 3) (.l 0), .none, none, false, 3, none⟩) k))))
  zRet) zSkip))
  (zSeq (zReg fun k => (zL 2 true (.v 1)) ((zStep E (cy Y) ⟨.call 95 [(.l 0)], .push, none, false, 1, (some 0)⟩) ((zStep E (cy Y) ⟨.alloc 38, (.var 5), none, false, 2, (some 1)⟩) ((zStep E (cy Y) ⟨.store 38 (.v 5) (.l 0), .none, none, false, 3, none⟩) k))))
  (zSeq (zSeq (zReg fun k => (zCall (cy Y) 174 [(.v 4)] .push) k)
  (zBlock 0 (zRange cy Y (.l 0) 6 [none, (some (.v 1)), (some (.v 5)), none, none, (some (.v 2)), (some (.v 3)), none] [none, none, (some (.v 1)), none, (some (.v 2)), (some (.v 3)), (some (.v 5)), none, none, none, none, none, none, none, none, none, none, none, none, none, none, none, none, none, none, none, none, none, none, none, none, none, none] [19] (codeAt [1, 1, 1, 0, 1, 0, 0] (bodyOf Tryz.f111)) (codeAt [1, 1, 1, 0, 1, 0, 1] (bodyOf Tryz.f111)))))
  (zSeq (zReg fun k => (zL 5 true (.v 5)) ((zStep E (cy Y) ⟨.store 38 (.v 2) (.l 0), .none, none, false, 1, none⟩) ((zStep E (cy Y) ⟨.store 55 (.v 3) (.k .nilIface), .none, none, false, 2, none⟩) k)))
  zRet))))), [.cell (.v 2) 38, .cell (.v 3) 55]⟩
theorem G111_ok (fn : Nat → Option Func) (pu : Nat → Bool) (pr : Nat → List AV → Option (Heap → Option (Eff × Acc))) : ZOk ⟨Tryz.tyT, fn, pu, pr⟩ npT F111 (G111 ⟨Tryz.tyT, fn, pu, pr⟩) := ⟨by kernel_rfl, by kernel_rfl, by kernel_rfl, fun cy Y k => by kernel_rfl⟩
noncomputable def F116 : FFn := cF LV 7 [0, 1, 4, 31, 30, 29, 8, 5, 49, 48, 47, 10, 2, 3] Tryz.f116
noncomputable def G116 (E : Env) : ZFn := ⟨79, [0, 1, 4, 31, 30, 29, 8, 5, 49, 48, 47, 10, 2, 3], fun cy Y fuel =>
  (zSeq (zReg fun k => (zStep E (cy Y) ⟨.box 85 (.v 0), (.var 1), none, false, 0, (some 0)⟩) ((zV 12 (vMv (.k (.sl 0 [] true)))) ((zV 13 (vMv (.k (.sl 0 [] true)))) k)))
  (zSeq (zReg fun k => (zStep E (cy Y) ⟨.alloc 34, (.var 2), none, false, 0, (some 0)⟩) ((zV 7 (vMv (.k (.sl 0 [] true)))) k))
  (zSeq (zSeq (zReg fun k => (zL 1 false (.v 1)) ((zP (vNilCheck (.l 0))) ((zP (vFieldAddr 0 (.l 0))) ((zCall (cy Y) 179 [(.l 0), (.k (.int .i64 6))] .push) k))))
  (zBlock 0 (zRange cy Y (.l 0) 7 [none, (some (.v 1)), none, (some (.v 2))] [none, (some (.v 1)), none, none, (some (.v 2)), none, none, none, none, none, none, none, none, none, none, none, none, none, none, none, none, none, none, none, none, none, none, none, none, none, none, none, none, none, none, none, none, none, none, none, none, none, none, none, none, none, none, none, none, none, none, none, none, none, none, none, none, none, none, none, none, none, none, none, none, none, none, none, none, none, none, none, none, none, none, none, none, none, none] [15] (codeAt [1, 1, 0, 1, 0, 0] (bodyOf Tryz.f116)) (codeAt [1, 1, 0, 1, 0, 1] (bodyOf Tryz.f116)))))
  (zSeq (zSeq (zReg fun k => (zL 1 false (.v 1)) ((zP (vNilCheck (.l 0))) ((zP (vFieldAddr 1 (.l 0))) ((zDstW (.var 5) (wLoad 1 false (.l 0))) ((zV 4 (vLenL (.v 5))) ((zV 3 (vMv (.k (.int .i64 0)))) k))))))
  (zBlock 2 (zLoop fuel (zSeq (zReg fun k => (zP (vInt E fLss .lss 3 false false (.v 3) (.v 4))) k)
  (zSeq (zCond (.l 0) zSkip (zExit 2))
  (zSeq (zBlock 3 (zSeq (zReg fun k => (zP (vIndexAddr 1 (.v 5) (.v 3))) ((zL 1 false (.l 0)) ((zV 6 (vMv (.l 0))) k)))
  (zSeq (zReg fun k => (zL 1 false (.v 1)) ((zP (vNilCheck (.l 0))) ((zP (vFieldAddr 0 (.l 0))) ((zP (vFieldAddr 0 (.l 0))) ((zL 1 false (.l 0)) ((zStep E (cy Y) ⟨.lookup 136 (.l 0) (.v 6) false, .push, none, false, 6, none⟩) ((zP (vInt E fEql .eql 3 false true (.l 0) (.k (.int .i64 0)))) k)))))))
  (zCond (.l 0) (zReg fun k => (zP (vMv (.v 7))) ((zStep E (cy Y) ⟨.call 181 [(.l 0), (.v 6)], .push, none, false, 2, (some 0)⟩) ((zV 7 (vMv (.l 0))) k))) zSkip))))
  (zReg fun k => (zP (vInt E fAdd .add 3 false true (.v 3) (.k (.int .i64 1)))) ((zV 3 (vMv (.l 0))) k))))))))
  (zSeq (zSeq (zReg fun k => (zV 10 (vMv (.v 7))) ((zV 9 (vLenL (.v 10))) ((zV 8 (vMv (.k (.int .i64 0)))) k)))
  (zBlock 4 (zLoop fuel (zSeq (zReg fun k => (zP (vInt E fLss .lss 3 false false (.v 8) (.v 9))) k)
  (zSeq (zCond (.l 0) zSkip (zExit 4))
  (zSeq (zBlock 5 (zSeq (zReg fun k => (zP (vIndexAddr 1 (.v 10) (.v 8))) ((zL 1 false (.l 0)) ((zV 11 (vMv (.l 0))) k)))
  (zDreg 1 fun n0 k => (zLD B31 0 1 false (.v 1)) ((zLD B31 1 1 false (.v 1)) ((zPD (vNilCheck (.l 0))) ((zPD (vFieldAddr 1 (.l 0))) ((zLD B31 4 1 false (.l 0)) ((zCallD (cy Y) B31 6 182 [(.l 0), (.v 11)] .push) ((zPD (vNilCheck (.l 5))) ((zPD (vFieldAddr 1 (.l 0))) ((zStepD E (cy Y) B31 n0 ⟨.store 34 (.l 0) (.l 2), .none, none, false, 9, none⟩) k)))))))))))
  (zReg fun k => (zP (vInt E fAdd .add 3 false true (.v 8) (.k (.int .i64 1)))) ((zV 8 (vMv (.l 0))) k))))))))
  (zSeq (zDreg 1 fun n0 k => (zLD B31 0 1 false (.v 1)) ((zLD B31 1 1 false (.v 1)) ((zPD (vNilCheck (.l 0))) ((zPD (vFieldAddr 1 (.l 0))) ((zLD B31 4 1 false (.l 0)) ((zLD B31 5 1 false (.v 2)) ((zStepD E (cy Y) B31 n0 ⟨.call 183 [(.l 1), (.l 0)], .push, none, false, 6, (some 0)⟩) ((zPD (vNilCheck (.l 6))) ((zPD (vFieldAddr 1 (.l 0))) ((zStepD E (cy Y) B31 n0 ⟨.store 34 (.l 0) (.l 2), .none, none, false, 9, none⟩) k))))))))))
  (zSeq (zReg fun k => (zL 1 false (.v 1)) ((zStep E (cy Y) ⟨.mkMap 136, .push, none, false, 1, (some 0)⟩) ((zStep E (cy Y) ⟨.build 138 [(0, (.l 0))], .push, none, false, 2, none⟩) ((zP (vNilCheck (.l 2))) ((zP (vFieldAddr 0 (.l 0))) ((zStep E (cy Y) ⟨.store 138 (.l 0) (.l 2), .none, none, false, 5, none⟩) k))))))
  (zSeq (zReg fun k => (zL 1 false (.v 2)) ((zV 12 (vMv (.l 0))) ((zV 13 (vMv (.v 7))) k)))
  zRet)))))))), [.tmp (.v 12), .tmp (.v 13)]⟩
theorem G116_ok (fn : Nat → Option Func) (pu : Nat → Bool) (pr : Nat → List AV → Option (Heap → Option (Eff × Acc))) : ZOk ⟨Tryz.tyT, fn, pu, pr⟩ npT F116 (G116 ⟨Tryz.tyT, fn, pu, pr⟩) := ⟨by kernel_rfl, by kernel_rfl, by kernel_rfl, fun cy Y k => by kernel_rfl⟩
noncomputable def F117 : FFn := cF LV 0 [0, 2, 1, 6, 5, 4] Tryz.f117
noncomputable def G117 (E : Env) : ZFn := ⟨18, [0, 2, 1, 6, 5, 4], fun cy Y fuel =>
  (zSeq (zReg fun k => (zStep E (cy Y) ⟨.box 26 (.v 0), (.var 1), none, false, 0, (some 0)⟩) ((zV 5 (vMv (.k (.int .i64 0)))) k))
  (zSeq (zReg fun k => (zL 2 true (.v 1)) ((zCall (cy Y) 184 [(.l 0), (.v 2)] .push) ((zP (vExtract 0 (.l 0))) ((zP (vExtract 1 (.l 1))) ((zStep E (cy Y) ⟨.alloc 131, (.var 4), none, false, 6, (some 1)⟩) ((zStep E (cy Y) ⟨.store 131 (.v 4) (.l 1), .none, none, false, 7, none⟩) ((zV 3 (vMv (.l 0))) k)))))))
  (zSeq (zSeq (zReg fun k => (zP (vNot (.v 3))) k)
  (zCond (.l 0) (zSeq (zReg fun k => (zV 5 (vMv (.k (.int .i64 2)))) k)
  zRet) zSkip))
  (zSeq (zReg fun k => (zP (vFieldAddr 2 (.v 4))) ((zL 1 false (.l 0)) ((zP (vConv .i64 (.l 0))) ((zV 5 (vMv (.l 0))) k))))
  zRet)))), [.tmp (.v 5)]⟩
theorem G117_ok (fn : Nat → Option Func) (pu : Nat → Bool) (pr : Nat → List AV → Option (Heap → Option (Eff × Acc))) : ZOk ⟨Tryz.tyT, fn, pu, pr⟩ npT F117 (G117 ⟨Tryz.tyT, fn, pu, pr⟩) := ⟨by kernel_rfl, by kernel_rfl, by kernel_rfl, fun cy Y k => by kernel_rfl⟩
noncomputable def F118 : FFn := cF LV 0 [0, 3, 1, 8, 6, 7, 2, 9] Tryz.f118
noncomputable def G118 (E : Env) : ZFn := ⟨52, [0, 3, 1, 8, 6, 7, 2, 9], fun cy Y fuel =>
  (zSeq (zReg fun k => (zStep E (cy Y) ⟨.box 26 (.v 0), (.var 1), none, false, 0, (some 0)⟩) ((zStep E (cy Y) ⟨.alloc 26, (.var 4), none, false, 1, (some 1)⟩) k))
  (zSeq (zReg fun k => (zL 2 true (.v 1)) ((zCall (cy Y) 184 [(.l 0), (.v 2)] .push) ((zP (vExtract 0 (.l 0))) ((zP (vExtract 1 (.l 1))) ((zStep E (cy Y) ⟨.alloc 131, (.var 5), none, false, 6, (some 1)⟩) ((zStep E (cy Y) ⟨.store 131 (.v 5) (.l 1), .none, none, false, 7, none⟩) ((zV 3 (vMv (.l 0))) k)))))))
  (zSeq (zSeq (zReg fun k => (zP (vInt E fEql .eql 9 false true (.v 2) (.k (.str [])))) ((zG (.l 0) false .push (zP (vMv (.v 2)))) ((zG (.l 1) false .push (zP (vLenS (.l 0)))) ((zG (.l 2) false .push (zP (vInt E fGtr .gtr 3 false true (.l 0) (.k (.int .i64 8))))) ((zP (vPick (.l 3) (.k (.bool true)) (.l 0))) ((zG (.l 0) false .push (zP (vMv (.v 3)))) ((zG (.l 1) false .push (zP (vNot (.l 0)))) ((zG (.l 2) false .push (zP (vMv (.l 0)))) ((zG (.l 0) true .push (zP (vFieldAddr 1 (.v 1)))) ((zG (.l 1) true .push (zL 1 false (.l 0))) ((zG (.l 2) true .push (zP (vLenL (.l 0)))) ((zG (.l 3) true .push (zP (vInt E (fGen .geq) .geq 3 false true (.l 0) (.k (.int .i64 40))))) ((zG (.l 7) false .push (zP (vPick (.l 4) (.l 0) (.k (.bool false))))) ((zP (vPick (.l 8) (.k (.bool true)) (.l 0))) k))))))))))))))
  (zCond (.l 0) (zSeq (zReg fun k => (zL 2 true (.v 1)) ((zStep E (cy Y) ⟨.store 26 (.v 4) (.l 0), .none, none, false, 1, none⟩) k))
  zRet) zSkip))
  (zSeq (zReg fun k => (zP (vFieldAddr 1 (.v 5))) ((zL 1 false (.l 0)) ((zP (vInt E fAdd .add 33 false true (.l 0) (.k (.int .u64 1)))) ((zStep E (cy Y) ⟨.most true [(.v 6), (.k (.int .i64 1))], .push, none, false, 5, none⟩) ((zStep E (cy Y) ⟨.most false [(.l 0), (.k (.int .i64 3))], .push, none, false, 6, none⟩) ((zP (vConv .u64 (.l 0))) ((zStep E (cy Y) ⟨.build 131 [(0, (.v 2)), (1, (.l 3)), (2, (.l 0))], .push, none, false, 8, none⟩) ((zStep E (cy Y) ⟨.alloc 131, (.var 7), none, false, 9, (some 0)⟩) ((zStep E (cy Y) ⟨.store 131 (.v 7) (.l 0), .none, none, false, 10, none⟩) k)))))))))
  (zSeq (zDreg 3 fun n0 k => (zPD (vFieldAddr 0 (.v 1))) ((zLD B32 1 1 false (.l 0)) ((zStepD E (cy Y) B32 n0 ⟨.call 68 [(.l 0)], .push, none, false, 2, (some 0)⟩) ((zPD (vFieldAddr 1 (.v 1))) ((zLD B32 4 1 false (.l 0)) ((zLD B32 5 3 true (.v 7)) ((zStepD E (cy Y) B32 n0 ⟨.buildSlice 24 1 [(0, (.l 0))], .push, none, false, 6, (some 1)⟩) ((zCallD (cy Y) B32 7 96 [(.l 2), (.l 0), (.k (.clo 97 [])), (.k (.clo 185 []))] .push) ((zStepD E (cy Y) B32 n0 ⟨.build 26 [(0, (.l 5)), (1, (.l 0))], .push, none, false, 8, none⟩) ((zStepD E (cy Y) B32 n0 ⟨.store 26 (.v 4) (.l 0), .none, none, false, 9, none⟩) k))))))))))
  zRet))))), [.cell (.v 4) 26]⟩
theorem G118_ok (fn : Nat → Option Func) (pu : Nat → Bool) (pr : Nat → List AV → Option (Heap → Option (Eff × Acc))) : ZOk ⟨Tryz.tyT, fn, pu, pr⟩ npT F118 (G118 ⟨Tryz.tyT, fn, pu, pr⟩) := ⟨by kernel_rfl, by kernel_rfl, by kernel_rfl, fun cy Y k => by kernel_rfl⟩
noncomputable def F120 : FFn := cF LV 0 [1, 11, 10, 9, 4, 0] Tryz.f120
noncomputable def G120 (E : Env) : ZFn := ⟨28, [1, 11, 10, 9, 4, 0], fun cy Y fuel =>
  (zSeq (zReg fun k => (zL 1 false (.v 0)) ((zP (vNilCheck (.l 0))) ((zP (vFieldAddr 3 (.l 0))) ((zL 2 true (.l 0)) ((zCall (cy Y) 121 [(.l 0)] (.var 3)) ((zV 2 (vLenL (.v 3))) ((zV 1 (vMv (.k (.int .i64 0)))) k)))))))
  (zBlock 0 (zLoop fuel (zSeq (zReg fun k => (zP (vInt E fLss .lss 3 false false (.v 1) (.v 2))) k)
  (zSeq (zCond (.l 0) zSkip (zExit 0))
  (zSeq (zBlock 1 (zSeq (zReg fun k => (zP (vIndexAddr 1 (.v 3) (.v 1))) ((zL 1 false (.l 0)) ((zV 4 (vMv (.l 0))) k)))
  (zSeq (zReg fun k => (zL 1 false (.v 0)) ((zP (vNilCheck (.l 0))) ((zP (vFieldAddr 0 (.l 0))) ((zL 1 false (.l 0)) ((zP (vInt E fNeq .neq 3 false false (.v 4) (.l 0))) ((zG (.l 0) true .push (zP (vMv (.v 5)))) ((zG (.l 1) true .push (zP (vMv (.v 4)))) ((zG (.l 2) true .push (zStep E (cy Y) ⟨.callv (.l 1) [(.l 0)], .push, none, false, 9, (some 0)⟩)) ((zG (.l 3) true .push (zP (vNot (.l 0)))) ((zP (vPick (.l 4) (.l 0) (.k (.bool false)))) k))))))))))
  (zCond (.l 0) zRet zSkip))))
  (zReg fun k => (zP (vInt E fAdd .add 3 false true (.v 1) (.k (.int .i64 1)))) ((zV 1 (vMv (.l 0))) k)))))))), []⟩
theorem G120_ok (fn : Nat → Option Func) (pu : Nat → Bool) (pr : Nat → List AV → Option (Heap → Option (Eff × Acc))) : ZOk ⟨Tryz.tyT, fn, pu, pr⟩ npT F120 (G120 ⟨Tryz.tyT, fn, pu, pr⟩) := ⟨by kernel_rfl, by kernel_rfl, by kernel_rfl, fun cy Y k => by kernel_rfl⟩
noncomputable def F121 : FFn := cF LV 0 [0, 1, 9, 8, 7, 5, 3, 2] Tryz.f121
noncomputable def G121 (E : Env) : ZFn := ⟨24, [0, 1, 9, 8, 7, 5, 3, 2], fun cy Y fuel =>
  (zSeq (zReg fun k => (zStep E (cy Y) ⟨.box 26 (.v 0), (.var 1), none, false, 0, (some 0)⟩) ((zV 7 (vMv (.k (.sl 0 [] true)))) k))
  (zSeq (zReg fun k => (zV 6 (vMv (.k (.sl 0 [] true)))) k)
  (zSeq (zSeq (zReg fun k => (zP (vFieldAddr 0 (.v 1))) ((zDstW (.var 4) (wLoad 1 false (.l 0))) ((zV 3 (vLenL (.v 4))) ((zV 2 (vMv (.k (.int .i64 0)))) k))))
  (zBlock 0 (zLoop fuel (zSeq (zReg fun k => (zP (vInt E fLss .lss 3 false false (.v 2) (.v 3))) k)
  (zSeq (zCond (.l 0) zSkip (zExit 0))
  (zSeq (zBlock 1 (zSeq (zReg fun k => (zP (vIndexAddr 2 (.v 4) (.v 2))) ((zL 2 true (.l 0)) ((zStep E (cy Y) ⟨.alloc 77, (.var 5), none, false, 2, (some 0)⟩) ((zStep E (cy Y) ⟨.store 77 (.v 5) (.l 0), .none, none, false, 3, none⟩) k))))
  (zSeq (zReg fun k => (zP (vFieldAddr 1 (.v 5))) ((zL 1 false (.l 0)) ((zP (vInt E (fGen .rem) .rem 33 false true (.l 0) (.k (.int .u64 2)))) ((zP (vInt E fEql .eql 33 false true (.l 0) (.k (.int .u64 1)))) k))))
  (zCond (.l 0) (zReg fun k => (zP (vMv (.v 6))) ((zP (vFieldAddr 0 (.v 5))) ((zL 1 false (.l 0)) ((zStep E (cy Y) ⟨.buildSlice 98 1 [(0, (.l 0))], .push, none, false, 3, (some 0)⟩) ((zStep E (cy Y) ⟨.append 98 98 (.l 3) (.l 0), .push, none, false, 4, (some 1)⟩) ((zV 6 (vMv (.l 0))) k)))))) zSkip))))
  (zReg fun k => (zP (vInt E fAdd .add 3 false true (.v 2) (.k (.int .i64 1)))) ((zV 2 (vMv (.l 0))) k))))))))
  (zSeq (zReg fun k => (zV 7 (vMv (.v 6))) k)
  zRet)))), [.tmp (.v 7)]⟩
theorem G121_ok (fn : Nat → Option Func) (pu : Nat → Bool) (pr : Nat → List AV → Option (Heap → Option (Eff × Acc))) : ZOk ⟨Tryz.tyT, fn, pu, pr⟩ npT F121 (G121 ⟨Tryz.tyT, fn, pu, pr⟩) := ⟨by kernel_rfl, by kernel_rfl, by kernel_rfl, fun cy Y k => by kernel_rfl⟩
noncomputable def F125 : FFn := cF LV 8 [0, 3, 2] Tryz.f125
noncomputable def G125 (E : Env) : ZFn := ⟨19, [0, 3, 2], fun cy Y fuel =>
  (zSeq (zReg fun k => (zV 2 (vMv (.k (.sl 0 [] true)))) k)
  (zSeq (zReg fun k => (zStep E (cy Y) ⟨.alloc 39, (.var 1), none, false, 0, (some 0)⟩) k)
  (zSeq (zSeq (zReg fun k => (zP (vNilCheck (.v 0))) ((zP (vFieldAddr 1 (.l 0))) ((zCall (cy Y) 189 [(.l 0)] .push) k)))
  (zBlock 0 (zRange cy Y (.l 0) 8 [none, none, (some (.v 1)), none, none] [none, none, none, (some (.v 1)), none, none, none, none, none, none, none, none, none, none, none, none, none, none, none] [10, 11] (codeAt [1, 1, 0, 1, 0, 0] (bodyOf Tryz.f125)) (codeAt [1, 1, 0, 1, 0, 1] (bodyOf Tryz.f125)))))
  (zSeq (zReg fun k => (zL 1 false (.v 1)) ((zV 2 (vMv (.l 0))) k))
  zRet)))), [.tmp (.v 2)]⟩
theorem G125_ok (fn : Nat → Option Func) (pu : Nat → Bool) (pr : Nat → List AV → Option (Heap → Option (Eff × Acc))) : ZOk ⟨Tryz.tyT, fn, pu, pr⟩ npT F125 (G125 ⟨Tryz.tyT, fn, pu, pr⟩) := ⟨by kernel_rfl, by kernel_rfl, by kernel_rfl, fun cy Y k => by kernel_rfl⟩
noncomputable def F126 : FFn := cF LV 0 [0, 1, 4] Tryz.f126
noncomputable def G126 (E : Env) : ZFn := ⟨9, [0, 1, 4], fun cy Y fuel =>
  (zSeq (zReg fun k => (zV 2 (vMv (.k (.bool false)))) k)
  (zSeq (zReg fun k => (zCall (cy Y) 190 [(.v 0), (.v 1)] .push) ((zP (vInt E (fGen .geq) .geq 3 false true (.l 0) (.k (.int .i64 0)))) ((zV 2 (vMv (.l 0))) k)))
  zRet)), [.tmp (.v 2)]⟩
theorem G126_ok (fn : Nat → Option Func) (pu : Nat → Bool) (pr : Nat → List AV → Option (Heap → Option (Eff × Acc))) : ZOk ⟨Tryz.tyT, fn, pu, pr⟩ npT F126 (G126 ⟨Tryz.tyT, fn, pu, pr⟩) := ⟨by kernel_rfl, by kernel_rfl, by kernel_rfl, fun cy Y k => by kernel_rfl⟩
noncomputable def F127 : FFn := cF LV 9 [0, 1, 4] Tryz.f127
noncomputable def G127 (E : Env) : ZFn := ⟨46, [0, 1, 4], fun cy Y fuel =>
  (zSeq (zDreg 1 fun n0 k => (zPD (vNilCheck (.v 0))) ((zPD (vFieldAddr 0 (.l 0))) ((zLD B33 4 1 false (.l 0)) ((zPD (vNilCheck (.v 0))) ((zPD (vFieldAddr 1 (.l 0))) ((zLD B33 8 1 false (.l 0)) ((zStepD E (cy Y) B33 n0 ⟨.most true [(.v 1), (.k (.int .i64 0))], .push, none, false, 10, none⟩) ((zCallD (cy Y) B33 12 191 [(.v 0)] .push) ((zStepD E (cy Y) B33 n0 ⟨.most false [(.l 1), (.l 0)], .push, none, false, 13, none⟩) ((zPD (vInt E fAdd .add 3 false false (.l 3) (.l 0))) ((zStepD E (cy Y) B33 n0 ⟨.slice 9 (.l 7) none (some (.l 0)) none, .push, none, false, 15, none⟩) ((zPD (vNilCheck (.v 0))) ((zPD (vFieldAddr 0 (.l 0))) ((zStepD E (cy Y) B33 n0 ⟨.store 9 (.l 0) (.l 2), .none, none, false, 18, none⟩) k))))))))))))))
  (zSeq (zReg fun k => (zStep E (cy Y) ⟨.alloc 3, (.var 2), none, false, 0, (some 0)⟩) ((zStep E (cy Y) ⟨.store 3 (.v 2) (.k (.int .i64 0)), .none, none, false, 1, none⟩) k))
  (zSeq (zSeq (zReg fun k => (zP (vNilCheck (.v 0))) ((zP (vFieldAddr 0 (.l 0))) ((zL 1 false (.l 0)) ((zCall (cy Y) 192 [(.l 0)] .push) k))))
  (zBlock 0 (zRange cy Y (.l 0) 9 [none, none, (some (.v 2))] [none, none, none, none, (some (.v 2)), none, none, none, none, none, none, none, none, none, none, none, none, none, none, none, none, none, none, none, none, none, none, none, none, none, none, none, none, none, none, none, none, none, none, none, none, none, none, none, none, none] [30, 31] (codeAt [1, 1, 0, 1, 0, 0] (bodyOf Tryz.f127)) (codeAt [1, 1, 0, 1, 0, 1] (bodyOf Tryz.f127)))))
  (zDreg 0 fun n0 k => (zPD (vNilCheck (.v 0))) ((zPD (vFieldAddr 0 (.l 0))) ((zLD B34 5 1 false (.l 0)) ((zLD B34 6 1 false (.v 2)) ((zStepD E (cy Y) B34 n0 ⟨.slice 9 (.l 1) none (some (.l 0)) none, .push, none, false, 7, none⟩) ((zLD B34 8 1 false (.v 2)) ((zPD (vNilCheck (.v 0))) ((zPD (vFieldAddr 0 (.l 0))) ((zStepD E (cy Y) B34 n0 ⟨.store 9 (.l 0) (.l 3), .none, none, false, 11, none⟩) ((zPD (vNilCheck (.v 0))) ((zPD (vFieldAddr 1 (.l 0))) ((zStepD E (cy Y) B34 n0 ⟨.store 3 (.l 0) (.l 4), .none, none, false, 14, none⟩) k))))))))))))))), []⟩
theorem G127_ok (fn : Nat → Option Func) (pu : Nat → Bool) (pr : Nat → List AV → Option (Heap → Option (Eff × Acc))) : ZOk ⟨Tryz.tyT, fn, pu, pr⟩ npT F127 (G127 ⟨Tryz.tyT, fn, pu, pr⟩) := ⟨by kernel_rfl, by kernel_rfl, by kernel_rfl, fun cy Y k => by kernel_rfl⟩
noncomputable def F128 : FFn := cF LV 10 [0, 3, 2] Tryz.f128
noncomputable def G128 (E : Env) : ZFn := ⟨17, [0, 3, 2], fun cy Y fuel =>
  (zSeq (zReg fun k => (zV 2 (vMv (.k (.sl 0 [] true)))) k)
  (zSeq (zReg fun k => (zStep E (cy Y) ⟨.alloc 34, (.var 1), none, false, 0, (some 0)⟩) k)
  (zSeq (zSeq (zReg fun k => (zP (vNilCheck (.v 0))) ((zP (vFieldAddr 0 (.l 0))) ((zL 1 false (.l 0)) ((zCall (cy Y) 192 [(.l 0)] .push) k))))
  (zBlock 0 (zRange cy Y (.l 0) 10 [none, (some (.v 1)), none] [none, none, none, (some (.v 1)), none, none, none, none, none, none, none, none, none, none, none, none, none] [10, 11] (codeAt [1, 1, 0, 1, 0, 0] (bodyOf Tryz.f128)) (codeAt [1, 1, 0, 1, 0, 1] (bodyOf Tryz.f128)))))
  (zSeq (zReg fun k => (zL 1 false (.v 1)) ((zV 2 (vMv (.l 0))) k))
  zRet)))), [.tmp (.v 2)]⟩
theorem G128_ok (fn : Nat → Option Func) (pu : Nat → Bool) (pr : Nat → List AV → Option (Heap → Option (Eff × Acc))) : ZOk ⟨Tryz.tyT, fn, pu, pr⟩ npT F128 (G128 ⟨Tryz.tyT, fn, pu, pr⟩) := ⟨by kernel_rfl, by kernel_rfl, by kernel_rfl, fun cy Y k => by kernel_rfl⟩
noncomputable def F129 : FFn := cF LV 0 [1, 4, 0, 5, 7, 6, 8, 11, 9] Tryz.f129
noncomputable def G129 (E : Env) : ZFn := ⟨72, [1, 4, 0, 5, 7, 6, 8, 11, 9], fun cy Y fuel =>
  (zSeq (zSeq (zReg fun k => (zP (vLenS (.v 0))) ((zP (vInt E fLss .lss 3 false true (.l 0) (.k (.int .i64 2)))) ((zG (.l 0) false .push (zP (vMv (.v 0)))) ((zG (.l 1) false .push (zP (vLenS (.l 0)))) ((zG (.l 2) false .push (zP (vMv (.v 0)))) ((zG (.l 3) false .push (zStep E (cy Y) ⟨.index 9 (.l 0) (.k (.int .i64 1)), .push, none, false, 7, none⟩)) ((zG (.l 4) false .push (zP (vConv .i64 (.l 0)))) ((zG (.l 5) false .push (zP (vInt E fAdd .add 3 true false (.k (.int .i64 2)) (.l 0)))) ((zG (.l 6) false .push (zP (vInt E fLss .lss 3 false false (.l 4) (.l 0)))) ((zP (vPick (.l 7) (.k (.bool true)) (.l 0))) k))))))))))
  (zCond (.l 0) zRet zSkip))
  (zSeq (zReg fun k => (zStep E (cy Y) ⟨.index 9 (.v 0) (.k (.int .i64 1)), .push, none, false, 1, none⟩) ((zP (vConv .i64 (.l 0))) ((zP (vInt E fAdd .add 3 true false (.k (.int .i64 2)) (.l 0))) ((zV 1 (vMv (.l 0))) k))))
  (zSeq (zDreg 0 fun n0 k => (zStepD E (cy Y) B35 n0 ⟨.slice 9 (.v 0) (some (.k (.int .i64 2))) (some (.v 1)) none, .push, none, false, 2, none⟩) ((zStepD E (cy Y) B35 n0 ⟨.slice 9 (.v 0) (some (.v 1)) none none, .push, none, false, 5, none⟩) ((zVD 3 (vMv (.l 1))) ((zVD 5 (vMv (.l 0))) k))))
  (zSeq (zSeq (zReg fun k => (zStep E (cy Y) ⟨.slice 9 (.v 0) none (some (.k (.int .i64 1))) none, .push, none, false, 1, none⟩) ((zP (vInt E fEql .eql 9 false true (.l 0) (.k (.str [2])))) k))
  (zCond (.l 0) (zSeq (zReg fun k => (zP (vNilCheck (.v 2))) ((zP (vFieldAddr 1 (.l 0))) ((zL 1 false (.l 0)) ((zCall (cy Y) 193 [(.l 0), (.v 3)] .push) k))))
  zRet) zSkip))
  (zSeq (zReg fun k => (zP (vNilCheck (.v 2))) ((zP (vFieldAddr 0 (.l 0))) ((zL 1 false (.l 0)) ((zStep E (cy Y) ⟨.call 78 [(.l 0), (.v 3)], .push, none, false, 5, (some 0)⟩) ((zP (vExtract 0 (.l 0))) ((zP (vExtract 1 (.l 1))) ((zStep E (cy Y) ⟨.alloc 83, (.var 4), none, false, 9, (some 1)⟩) ((zStep E (cy Y) ⟨.store 83 (.v 4) (.l 1), .none, none, false, 10, none⟩) ((zV 6 (vMv (.l 0))) k)))))))))
  (zSeq (zReg fun k => (zP (vFieldAddr 2 (.v 4))) ((zL 2 true (.l 0)) ((zCall (cy Y) 194 [(.l 0), (.v 5)] .push) ((zP (vExtract 0 (.l 0))) ((zP (vExtract 1 (.l 1))) ((zP (vExtract 2 (.l 2))) ((zStep E (cy Y) ⟨.alloc 38, (.var 8), none, false, 8, (some 1)⟩) ((zStep E (cy Y) ⟨.store 38 (.v 8) (.l 2), .none, none, false, 9, none⟩) ((zP (vMv (.l 1))) ((zV 7 (vMv (.l 1))) k))))))))))
  (zSeq (zReg fun k => (zG (.v 6) true .push (zP (vMv (.v 7)))) ((zG (.v 6) true .push (zP (vInt E fEql .eql 55 false true (.l 0) (.k .nilIface)))) ((zP (vPick (.v 6) (.l 0) (.k (.bool false)))) k)))
  (zCond (.l 0) (zDreg 1 fun n0 k => (zPD (vNilCheck (.v 2))) ((zPD (vFieldAddr 1 (.l 0))) ((zLD B36 3 1 false (.l 0)) ((zLD B36 5 5 true (.v 8)) ((zCallD (cy Y) B36 6 168 [(.l 1), (.v 3), (.l 0)] .push) k))))) zSkip)))))))), []⟩
theorem G129_ok (fn : Nat → Option Func) (pu : Nat → Bool) (pr : Nat → List AV → Option (Heap → Option (Eff × Acc))) : ZOk ⟨Tryz.tyT, fn, pu, pr⟩ npT F129 (G129 ⟨Tryz.tyT, fn, pu, pr⟩) := ⟨by kernel_rfl, by kernel_rfl, by kernel_rfl, fun cy Y k => by kernel_rfl⟩
noncomputable def F130 : FFn := cF LV 0 [0, 1, 2] Tryz.f130
noncomputable def G130 (E : Env) : ZFn := ⟨4, [0, 1, 2], fun cy Y fuel =>
  (zSeq (zReg fun k => (zStep E (cy Y) ⟨.box 39 (.v 0), (.var 1), none, false, 0, (some 0)⟩) ((zV 2 (vMv (.k .nilFunc))) k))
  (zSeq (zReg fun k => (zStep E (cy Y) ⟨.mkFunc 195 [(.v 1)], .push, none, false, 0, none⟩) ((zV 2 (vMv (.l 0))) k))
  zRet)), [.tmp (.v 2)]⟩
theorem G130_ok (fn : Nat → Option Func) (pu : Nat → Bool) (pr : Nat → List AV → Option (Heap → Option (Eff × Acc))) : ZOk ⟨Tryz.tyT, fn, pu, pr⟩ npT F130 (G130 ⟨Tryz.tyT, fn, pu, pr⟩) := ⟨by kernel_rfl, by kernel_rfl, by kernel_rfl, fun cy Y k => by kernel_rfl⟩
noncomputable def F131 : FFn := cF LV 0 [2, 0, 1, 7, 5, 6] Tryz.f131
noncomputable def G131 (E : Env) : ZFn := ⟨26, [2, 0, 1, 7, 5, 6], fun cy Y fuel =>
  (zSeq (zReg fun k => (zStep E (cy Y) ⟨.box 38 (.v 0), (.var 4), none, false, 0, (some 0)⟩) ((zV 5 (vMv (.k (.str [])))) k))
  (zSeq (zReg fun k => (zP (vNilCheck (.v 1))) ((zP (vFieldAddr 0 (.l 0))) ((zL 1 false (.l 0)) ((zStep E (cy Y) ⟨.call 78 [(.l 0), (.v 2)], .push, none, false, 5, (some 0)⟩) ((zP (vExtract 0 (.l 0))) ((zP (vExtract 1 (.l 1))) ((zStep E (cy Y) ⟨.alloc 83, (.var 3), none, false, 9, (some 1)⟩) ((zStep E (cy Y) ⟨.store 83 (.v 3) (.l 1), .none, none, false, 10, none⟩) ((zP (vMv (.l 0))) k)))))))))
  (zSeq (zDreg 2 fun n0 k => (zCallD (cy Y) B37 1 196 [(.v 2)] .push) ((zPD (vInt E fAdd .add 9 true false (.k (.str [1])) (.l 0))) ((zPD (vFieldAddr 2 (.v 3))) ((zLD B37 4 2 true (.l 0)) ((zLD B37 5 5 true (.v 4)) ((zCallD (cy Y) B37 6 197 [(.l 1), (.l 0)] .push) ((zPD (vInt E fAdd .add 9 false false (.l 4) (.l 0))) ((zVD 5 (vMv (.l 0))) k))))))))
  zRet))), [.tmp (.v 5)]⟩
theorem G131_ok (fn : Nat → Option Func) (pu : Nat → Bool) (pr : Nat → List AV → Option (Heap → Option (Eff × Acc))) : ZOk ⟨Tryz.tyT, fn, pu, pr⟩ npT F131 (G131 ⟨Tryz.tyT, fn, pu, pr⟩) := ⟨by kernel_rfl, by kernel_rfl, by kernel_rfl, fun cy Y k => by kernel_rfl⟩
noncomputable def F132 : FFn := cF LV 0 [1, 10, 9, 8, 5, 7, 0, 4] Tryz.f132
noncomputable def G132 (E : Env) : ZFn := ⟨32, [1, 10, 9, 8, 5, 7, 0, 4], fun cy Y fuel =>
  (zSeq (zReg fun k => (zV 7 (vMv (.k .nilIface))) k)
  (zSeq (zReg fun k => (zV 4 (vMv (.k (.str [])))) k)
  (zSeq (zSeq (zReg fun k => (zV 3 (vMv (.v 0))) ((zV 2 (vLenL (.v 3))) ((zV 1 (vMv (.k (.int .i64 0)))) k)))
  (zBlock 0 (zLoop fuel (zSeq (zReg fun k => (zP (vInt E fLss .lss 3 false false (.v 1) (.v 2))) k)
  (zSeq (zCond (.l 0) zSkip (zExit 0))
  (zSeq (zBlock 1 (zSeq (zReg fun k => (zP (vIndexAddr 1 (.v 3) (.v 1))) ((zL 1 false (.l 0)) ((zV 5 (vMv (.l 0))) k)))
  (zReg fun k => (zP (vMv (.v 4))) ((zCall (cy Y) 198 [(.v 5)] .push) ((zP (vInt E fAdd .add 9 false false (.l 1) (.l 0))) ((zV 4 (vMv (.l 0))) k))))))
  (zReg fun k => (zP (vInt E fAdd .add 3 false true (.v 1) (.k (.int .i64 1)))) ((zV 1 (vMv (.l 0))) k))))))))
  (zSeq (zSeq (zReg fun k => (zP (vLenS (.v 4))) ((zP (vInt E fGtr .gtr 3 false true (.l 0) (.k (.int .i64 100000)))) k))
  (zCond (.l 0) (zSeq (zReg fun k => (zStep E (cy Y) ⟨.mkIface 66 (.k (.int .i64 15)), .push, none, false, 0, none⟩) ((zV 7 (vMv (.l 0))) k))
  zRet) zSkip))
  (zSeq (zReg fun k => (zP (vLenS (.v 4))) ((zP (vNilCheck (.v 6))) ((zP (vFieldAddr 0 (.l 0))) ((zStep E (cy Y) ⟨.store 9 (.l 0) (.v 4), .none, none, false, 7, none⟩) ((zP (vNilCheck (.v 6))) ((zP (vFieldAddr 1 (.l 0))) ((zStep E (cy Y) ⟨.store 3 (.l 0) (.l 4), .none, none, false, 10, none⟩) k)))))))
  (zSeq (zReg fun k => (zV 7 (vMv (.k .nilIface))) k)
  zRet)))))), [.tmp (.v 7)]⟩
theorem G132_ok (fn : Nat → Option Func) (pu : Nat → Bool) (pr : Nat → List AV → Option (Heap → Option (Eff × Acc))) : ZOk ⟨Tryz.tyT, fn, pu, pr⟩ npT F132 (G132 ⟨Tryz.tyT, fn, pu, pr⟩) := ⟨by kernel_rfl, by kernel_rfl, by kernel_rfl, fun cy Y k => by kernel_rfl⟩
noncomputable def F133 : FFn := cF LV 0 [0, 1, 2] Tryz.f133
noncomputable def G133 (E : Env) : ZFn := ⟨35, [0, 1, 2], fun cy Y fuel =>
  (zSeq (zReg fun k => (zStep E (cy Y) ⟨.box 81 (.v 0), (.var 1), none, false, 0, (some 0)⟩) ((zV 2 (vMv (.k (.int .i64 0)))) k))
  (zSeq (zBlock 0 (zSeq (zReg fun k => (zL 2 true (.v 1)) ((zCall (cy Y) 158 [(.l 0)] .push) ((zP (vNot (.l 0))) ((zP (vMv (.l 0))) k))))
  (zCond (.l 0) (zSeq (zReg fun k => (zV 2 (vMv (.k (.int .i64 0)))) k)
  zRet) (zSeq (zReg fun k => (zP (vFieldAddr 0 (.v 1))) ((zL 1 false (.l 0)) ((zP (vInt E fEql .eql 3 false true (.l 0) (.k (.int .i64 6)))) ((zP (vMv (.l 0))) k))))
  (zCond (.l 0) (zSeq (zReg fun k => (zV 2 (vMv (.k (.int .i64 2)))) k)
  zRet) (zSeq (zDreg 2 fun n0 k => (zPD (vFieldAddr 0 (.v 1))) ((zLD B38 1 1 false (.l 0)) ((zPD (vInt E fEql .eql 3 false true (.l 0) (.k (.int .i64 8)))) ((zGD (.l 0) true .push (zPD (vFieldAddr 1 (.v 1)))) ((zGD (.l 1) true .push (zLD B38 5 1 false (.l 0))) ((zGD (.l 2) true .push (zPD (vIndexAddr 2 (.l 0) (.k (.int .i64 0))))) ((zGD (.l 3) true .push (zPD (vFieldAddr 0 (.l 0)))) ((zGD (.l 4) true .push (zLD B38 8 1 false (.l 0))) ((zGD (.l 5) true .push (zPD (vInt E fEql .eql 3 false true (.l 0) (.k (.int .i64 5))))) ((zPD (vPick (.l 6) (.l 0) (.k (.bool false)))) ((zGD (.l 0) true .push (zLD B38 12 2 true (.v 1))) ((zGD (.l 1) true .push (zPD (vFieldAddr 1 (.v 1)))) ((zGD (.l 2) true .push (zLD B38 14 1 false (.l 0))) ((zGD (.l 3) true .push (zPD (vIndexAddr 2 (.l 0) (.k (.int .i64 0))))) ((zGD (.l 4) true .push (zPD (vFieldAddr 1 (.l 0)))) ((zGD (.l 5) true .push (zLD B38 17 1 false (.l 0))) ((zGD (.l 6) true .push (zPD (vIndexAddr 2 (.l 0) (.k (.int .i64 1))))) ((zGD (.l 7) true .push (zLD B38 19 2 true (.l 0))) ((zGD (.l 8) true .push (zCallD (cy Y) B38 20 200 [(.l 0)] .push)) ((zGD (.l 9) true .push (zCallD (cy Y) B38 21 199 [(.l 8), (.l 0)] .push)) ((zPD (vPick (.l 10) (.l 0) (.k (.bool false)))) ((zPD (vMv (.l 0))) k))))))))))))))))))))))
  (zCond (.l 0) (zSeq (zReg fun k => (zV 2 (vMv (.k (.int .i64 3)))) k)
  zRet) zSkip)))))))
  (zSeq (zReg fun k => (zV 2 (vMv (.k (.int .i64 1)))) k)
  zRet))), [.tmp (.v 2)]⟩
theorem G133_ok (fn : Nat → Option Func) (pu : Nat → Bool) (pr : Nat → List AV → Option (Heap → Option (Eff × Acc))) : ZOk ⟨Tryz.tyT, fn, pu, pr⟩ npT F133 (G133 ⟨Tryz.tyT, fn, pu, pr⟩) := ⟨by kernel_rfl, by kernel_rfl, by kernel_rfl, fun cy Y k => by kernel_rfl⟩
noncomputable def F134 : FFn := cF LV 0 [0, 1, 4] Tryz.f134
noncomputable def G134 (E : Env) : ZFn := ⟨9, [0, 1, 4], fun cy Y fuel =>
  (zSeq (zReg fun k => (zV 2 (vMv (.k (.bool false)))) k)
  (zSeq (zReg fun k => (zCall (cy Y) 139 [(.v 0), (.v 1)] .push) ((zP (vInt E (fGen .geq) .geq 3 false true (.l 0) (.k (.int .i64 0)))) ((zV 2 (vMv (.l 0))) k)))
  zRet)), [.tmp (.v 2)]⟩
theorem G134_ok (fn : Nat → Option Func) (pu : Nat → Bool) (pr : Nat → List AV → Option (Heap → Option (Eff × Acc))) : ZOk ⟨Tryz.tyT, fn, pu, pr⟩ npT F134 (G134 ⟨Tryz.tyT, fn, pu, pr⟩) := ⟨by kernel_rfl, by kernel_rfl, by kernel_rfl, fun cy Y k => by kernel_rfl⟩
noncomputable def F135 : FFn := cF LV 0 [0, 2, 1, 3] Tryz.f135
noncomputable def G135 (E : Env) : ZFn := ⟨9, [0, 2, 1, 3], fun cy Y fuel =>
  (zSeq (zReg fun k => (zStep E (cy Y) ⟨.box 83 (.v 0), (.var 1), none, false, 0, (some 0)⟩) ((zV 3 (vMv (.k (.bool false)))) k))
  (zSeq (zReg fun k => (zP (vFieldAddr 0 (.v 1))) ((zL 1 false (.l 0)) ((zP (vFieldAddr 0 (.v 2))) ((zL 1 false (.l 0)) ((zP (vInt E fEql .eql 9 false false (.l 2) (.l 0))) ((zV 3 (vMv (.l 0))) k))))))
  zRet)), [.tmp (.v 3)]⟩
theorem G135_ok (fn : Nat → Option Func) (pu : Nat → Bool) (pr : Nat → List AV → Option (Heap → Option (Eff × Acc))) : ZOk ⟨Tryz.tyT, fn, pu, pr⟩ npT F135 (G135 ⟨Tryz.tyT, fn, pu, pr⟩) := ⟨by kernel_rfl, by kernel_rfl, by kernel_rfl, fun cy Y k => by kernel_rfl⟩
noncomputable def F136 : FFn := cF LV 0 [0, 1, 2, 3, 4] Tryz.f136
noncomputable def G136 (E : Env) : ZFn := ⟨38, [0, 1, 2, 3, 4], fun cy Y fuel =>
  (zSeq (zReg fun k => (zStep E (cy Y) ⟨.box 38 (.v 0), (.var 2), none, false, 0, (some 0)⟩) ((zStep E (cy Y) ⟨.box 38 (.v 1), (.var 3), none, false, 1, (some 1)⟩) ((zV 4 (vMv (.k (.bool false)))) k)))
  (zSeq (zReg fun k => (zP (vFieldAddr 0 (.v 2))) ((zL 1 false (.l 0)) ((zP (vFieldAddr 0 (.v 3))) ((zL 1 false (.l 0)) ((zP (vInt E fEql .eql 33 false false (.l 2) (.l 0))) ((zG (.l 0) true .push (zP (vFieldAddr 1 (.v 2)))) ((zG (.l 1) true .push (zL 1 false (.l 0))) ((zG (.l 2) true .push (zP (vFieldAddr 1 (.v 3)))) ((zG (.l 3) true .push (zL 1 false (.l 0))) ((zG (.l 4) true .push (zP (vInt E fEql .eql 33 false false (.l 2) (.l 0)))) ((zP (vPick (.l 5) (.l 0) (.k (.bool false)))) ((zG (.l 0) true .push (zP (vFieldAddr 2 (.v 2)))) ((zG (.l 1) true .push (zL 1 false (.l 0))) ((zG (.l 2) true .push (zP (vFieldAddr 2 (.v 3)))) ((zG (.l 3) true .push (zL 1 false (.l 0))) ((zG (.l 4) true .push (zCall (cy Y) 201 [(.l 2), (.l 0)] .push)) ((zP (vPick (.l 5) (.l 0) (.k (.bool false)))) ((zG (.l 0) true .push (zP (vFieldAddr 3 (.v 2)))) ((zG (.l 1) true .push (zL 1 false (.l 0))) ((zG (.l 2) true .push (zP (vFieldAddr 3 (.v 3)))) ((zG (.l 3) true .push (zL 1 false (.l 0))) ((zG (.l 4) true .push (zCall (cy Y) 202 [(.l 2), (.l 0), (.k (.clo 203 []))] .push)) ((zP (vPick (.l 5) (.l 0) (.k (.bool false)))) ((zG (.l 0) true .push (zP (vFieldAddr 4 (.v 2)))) ((zG (.l 1) true .push (zL 1 false (.l 0))) ((zG (.l 2) true .push (zP (vFieldAddr 4 (.v 3)))) ((zG (.l 3) true .push (zL 1 false (.l 0))) ((zG (.l 4) true .push (zCall (cy Y) 204 [(.l 2), (.l 0), (.k (.clo 136 []))] .push)) ((zP (vPick (.l 5) (.l 0) (.k (.bool false)))) ((zV 4 (vMv (.l 0))) k))))))))))))))))))))))))))))))
  zRet)), [.tmp (.v 4)]⟩
theorem G136_ok (fn : Nat → Option Func) (pu : Nat → Bool) (pr : Nat → List AV → Option (Heap → Option (Eff × Acc))) : ZOk ⟨Tryz.tyT, fn, pu, pr⟩ npT F136 (G136 ⟨Tryz.tyT, fn, pu, pr⟩) := ⟨by kernel_rfl, by kernel_rfl, by kernel_rfl, fun cy Y k => by kernel_rfl⟩
noncomputable def F137 : FFn := cF LV 0 [0, 1, 2, 3, 4] Tryz.f137
noncomputable def G137 (E : Env) : ZFn := ⟨17, [0, 1, 2, 3, 4], fun cy Y fuel =>
  (zSeq (zReg fun k => (zStep E (cy Y) ⟨.box 26 (.v 0), (.var 2), none, false, 0, (some 0)⟩) ((zStep E (cy Y) ⟨.box 26 (.v 1), (.var 3), none, false, 1, (some 1)⟩) ((zV 4 (vMv (.k (.bool false)))) k)))
  (zSeq (zReg fun k => (zP (vFieldAddr 0 (.v 2))) ((zL 1 false (.l 0)) ((zP (vFieldAddr 0 (.v 3))) ((zL 1 false (.l 0)) ((zCall (cy Y) 205 [(.l 2), (.l 0)] .push) ((zG (.l 0) true .push (zP (vFieldAddr 1 (.v 2)))) ((zG (.l 1) true .push (zL 1 false (.l 0))) ((zG (.l 2) true .push (zP (vFieldAddr 1 (.v 3)))) ((zG (.l 3) true .push (zL 1 false (.l 0))) ((zG (.l 4) true .push (zCall (cy Y) 206 [(.l 2), (.l 0)] .push)) ((zP (vPick (.l 5) (.l 0) (.k (.bool false)))) ((zV 4 (vMv (.l 0))) k))))))))))))
  zRet)), [.tmp (.v 4)]⟩
theorem G137_ok (fn : Nat → Option Func) (pu : Nat → Bool) (pr : Nat → List AV → Option (Heap → Option (Eff × Acc))) : ZOk ⟨Tryz.tyT, fn, pu, pr⟩ npT F137 (G137 ⟨Tryz.tyT, fn, pu, pr⟩) := ⟨by kernel_rfl, by kernel_rfl, by kernel_rfl, fun cy Y k => by kernel_rfl⟩
noncomputable def F138 : FFn := cF LV 0 [0, 2] Tryz.f138
noncomputable def G138 (E : Env) : ZFn := ⟨6, [0, 2], fun cy Y fuel =>
  (zSeq (zReg fun k => (zV 1 (vMv (.k (.bool false)))) k)
  (zSeq (zReg fun k => (zCall (cy Y) 207 [(.v 0), (.k (.str [97, 98, 99, 100, 101, 102, 103, 104, 105, 106, 107, 108, 109, 110, 111, 112, 113, 114, 115, 116, 117, 118, 119, 120, 121, 122, 48, 49, 50, 51, 52, 53, 54, 55, 56, 57]))] .push) ((zP (vInt E fEql .eql 9 false true (.l 0) (.k (.str [])))) ((zV 1 (vMv (.l 0))) k)))
  zRet)), [.tmp (.v 1)]⟩
theorem G138_ok (fn : Nat → Option Func) (pu : Nat → Bool) (pr : Nat → List AV → Option (Heap → Option (Eff × Acc))) : ZOk ⟨Tryz.tyT, fn, pu, pr⟩ npT F138 (G138 ⟨Tryz.tyT, fn, pu, pr⟩) := ⟨by kernel_rfl, by kernel_rfl, by kernel_rfl, fun cy Y k => by kernel_rfl⟩
noncomputable def F139 : FFn := cF LV 0 [0, 8, 7, 1, 5, 4] Tryz.f139
noncomputable def G139 (E : Env) : ZFn := ⟨19, [0, 8, 7, 1, 5, 4], fun cy Y fuel =>
  (zSeq (zReg fun k => (zV 5 (vMv (.k (.int .i64 0)))) k)
  (zSeq (zSeq (zReg fun k => (zV 2 (vLenL (.v 0))) ((zV 1 (vMv (.k (.int .i64 0)))) k))
  (zBlock 0 (zLoop fuel (zSeq (zReg fun k => (zP (vInt E fLss .lss 3 false false (.v 1) (.v 2))) k)
  (zSeq (zCond (.l 0) zSkip (zExit 0))
  (zSeq (zBlock 1 (zSeq (zReg fun k => (zV 4 (vMv (.v 1))) k)
  (zSeq (zReg fun k => (zP (vIndexAddr 4 (.v 0) (.v 4))) ((zL 4 true (.l 0)) ((zStep E (cy Y) ⟨.callv (.v 3) [(.l 0)], .push, none, false, 5, (some 0)⟩) k)))
  (zCond (.l 0) (zSeq (zReg fun k => (zV 5 (vMv (.v 4))) k)
  zRet) zSkip))))
  (zReg fun k => (zP (vInt E fAdd .add 3 false true (.v 1) (.k (.int .i64 1)))) ((zV 1 (vMv (.l 0))) k))))))))
  (zSeq (zReg fun k => (zV 5 (vMv (.k (.int .i64 (-1))))) k)
  zRet))), [.tmp (.v 5)]⟩
theorem G139_ok (fn : Nat → Option Func) (pu : Nat → Bool) (pr : Nat → List AV → Option (Heap → Option (Eff × Acc))) : ZOk ⟨Tryz.tyT, fn, pu, pr⟩ npT F139 (G139 ⟨Tryz.tyT, fn, pu, pr⟩) := ⟨by kernel_rfl, by kernel_rfl, by kernel_rfl, fun cy Y k => by kernel_rfl⟩
noncomputable def F140 : FFn := cF LV 0 [0, 2, 1, 3] Tryz.f140
noncomputable def G140 (E : Env) : ZFn := ⟨9, [0, 2, 1, 3], fun cy Y fuel =>
  (zSeq (zReg fun k => (zStep E (cy Y) ⟨.box 83 (.v 0), (.var 1), none, false, 0, (some 0)⟩) ((zV 3 (vMv (.k (.bool false)))) k))
  (zSeq (zDreg 0 fun n0 k => (zPD (vFieldAddr 0 (.v 1))) ((zLD B39 1 1 false (.l 0)) ((zLD B39 2 1 false (.v 2)) ((zStepD E (cy Y) B39 n0 ⟨.slice 9 (.l 0) none (some (.k (.int .i64 1))) none, .push, none, false, 3, none⟩) ((zPD (vInt E fEql .eql 9 false false (.l 2) (.l 0))) ((zVD 3 (vMv (.l 0))) k))))))
  zRet)), [.tmp (.v 3)]⟩
theorem G140_ok (fn : Nat → Option Func) (pu : Nat → Bool) (pr : Nat → List AV → Option (Heap → Option (Eff × Acc))) : ZOk ⟨Tryz.tyT, fn, pu, pr⟩ npT F140 (G140 ⟨Tryz.tyT, fn, pu, pr⟩) := ⟨by kernel_rfl, by kernel_rfl, by kernel_rfl, fun cy Y k => by kernel_rfl⟩
noncomputable def F141 : FFn := cF LV 0 [0, 1, 2, 3, 4] Tryz.f141
noncomputable def G141 (E : Env) : ZFn := ⟨12, [0, 1, 2, 3, 4], fun cy Y fuel =>
  (zSeq (zReg fun k => (zStep E (cy Y) ⟨.box 81 (.v 0), (.var 2), none, false, 0, (some 0)⟩) ((zStep E (cy Y) ⟨.box 38 (.v 1), (.var 3), none, false, 1, (some 1)⟩) ((zV 4 (vMv (.k (.bool false)))) k)))
  (zSeq (zReg fun k => (zL 2 true (.v 2)) ((zCall (cy Y) 158 [(.l 0)] .push) ((zG (.l 0) true .push (zL 2 true (.v 2))) ((zG (.l 1) true .push (zL 5 true (.v 3))) ((zG (.l 2) true .push (zCall (cy Y) 208 [(.l 1), (.l 0)] .push)) ((zP (vPick (.l 3) (.l 0) (.k (.bool false)))) ((zV 4 (vMv (.l 0))) k)))))))
  zRet)), [.tmp (.v 4)]⟩
theorem G141_ok (fn : Nat → Option Func) (pu : Nat → Bool) (pr : Nat → List AV → Option (Heap → Option (Eff × Acc))) : ZOk ⟨Tryz.tyT, fn, pu, pr⟩ npT F141 (G141 ⟨Tryz.tyT, fn, pu, pr⟩) := ⟨by kernel_rfl, by kernel_rfl, by kernel_rfl, fun cy Y k => by kernel_rfl⟩
noncomputable def F142 : FFn := cF LV 11 [0, 2] Tryz.f142
noncomputable def G142 (E : Env) : ZFn := ⟨12, [0, 2], fun cy Y fuel =>
  (zSeq (zReg fun k => (zStep E (cy Y) ⟨.alloc 4, (.var 1), none, false, 0, (some 0)⟩) k)
  (zSeq (zSeq (zReg fun k => (zCall (cy Y) 209 [(.v 0)] .push) k)
  (zBlock 0 (zRange cy Y (.l 0) 11 [none, none, none, none, (some (.v 1))] [none, none, (some (.v 1)), none, none, none, none, none, none, none, none, none] [7, 8] (codeAt [1, 0, 1, 0, 0] (bodyOf Tryz.f142)) (codeAt [1, 0, 1, 0, 1] (bodyOf Tryz.f142)))))
  (zSeq (zReg fun k => (zStep E (cy Y) ⟨.store 4 (.v 1) (.k (.bool true)), .none, none, false, 0, none⟩) k)
  zRet))), [.cell (.v 1) 4]⟩
theorem G142_ok (fn : Nat → Option Func) (pu : Nat → Bool) (pr : Nat → List AV → Option (Heap → Option (Eff × Acc))) : ZOk ⟨Tryz.tyT, fn, pu, pr⟩ npT F142 (G142 ⟨Tryz.tyT, fn, pu, pr⟩) := ⟨by kernel_rfl, by kernel_rfl, by kernel_rfl, fun cy Y k => by kernel_rfl⟩
noncomputable def F143 : FFn := cF LV 0 [0, 1, 2, 3, 4] Tryz.f143
noncomputable def G143 (E : Env) : ZFn := ⟨9, [0, 1, 2, 3, 4], fun cy Y fuel =>
  (zSeq (zReg fun k => (zStep E (cy Y) ⟨.box 81 (.v 0), (.var 2), none, false, 0, (some 0)⟩) ((zStep E (cy Y) ⟨.box 38 (.v 1), (.var 3), none, false, 1, (some 1)⟩) ((zV 4 (vMv (.k (.bool false)))) k)))
  (zSeq (zDreg 2 fun n0 k => (zLD B40 0 2 true (.v 2)) ((zStepD E (cy Y) B40 n0 ⟨.call 95 [(.l 0)], .push, none, false, 1, (some 0)⟩) ((zLD B40 2 5 true (.v 3)) ((zStepD E (cy Y) B40 n0 ⟨.call 136 [(.l 1), (.l 0)], .push, none, false, 3, (some 1)⟩) ((zVD 4 (vMv (.l 0))) k)))))
  zRet)), [.tmp (.v 4)]⟩
theorem G143_ok (fn : Nat → Option Func) (pu : Nat → Bool) (pr : Nat → List AV → Option (Heap → Option (Eff × Acc))) : ZOk ⟨Tryz.tyT, fn, pu, pr⟩ npT F143 (G143 ⟨Tryz.tyT, fn, pu, pr⟩) := ⟨by kernel_rfl, by kernel_rfl, by kernel_rfl, fun cy Y k => by kernel_rfl⟩
noncomputable def F144 : FFn := cF LV 12 [0, 2, 1, 5, 3, 7, 6] Tryz.f144
noncomputable def G144 (E : Env) : ZFn := ⟨35, [0, 2, 1, 5, 3, 7, 6], fun cy Y fuel =>
  (zSeq (zReg fun k => (zStep E (cy Y) ⟨.box 31 (.v 0), (.var 4), none, false, 0, (some 0)⟩) ((zStep E (cy Y) ⟨.box 226 (.v 1), (.var 3), none, false, 1, (some 1)⟩) ((zStep E (cy Y) ⟨.alloc 4, (.var 6), none, false, 2, (some 2)⟩) k)))
  (zSeq (zReg fun k => (zStep E (cy Y) ⟨.alloc 9, (.var 5), none, false, 0, (some 0)⟩) ((zStep E (cy Y) ⟨.store 9 (.v 5) (.k (.str [])), .none, none, false, 1, none⟩) k))
  (zSeq (zSeq (zReg fun k => (zCall (cy Y) 130 [(.v 2)] .push) k)
  (zBlock 0 (zRange cy Y (.l 0) 12 [none, (some (.v 3)), none, (some (.v 4)), none, none, (some (.v 5)), (some (.v 6))] [none, none, none, (some (.v 4)), none, (some (.v 3)), (some (.v 6)), (some (.v 5)), none, none, none, none, none, none, none, none, none, none, none, none, none, none, none, none, none, none, none, none, none, none, none, none, none, none, none] [14] (codeAt [1, 1, 0, 1, 0, 0] (bodyOf Tryz.f144)) (codeAt [1, 1, 0, 1, 0, 1] (bodyOf Tryz.f144)))))
  (zSeq (zReg fun k => (zP (vLenL (.v 2))) ((zP (vInt E (fGen .leq) .leq 3 false true (.l 0) (.k (.int .i64 24)))) ((zStep E (cy Y) ⟨.store 4 (.v 6) (.l 0), .none, none, false, 3, none⟩) k)))
  zRet)))), [.cell (.v 6) 4]⟩
theorem G144_ok (fn : Nat → Option Func) (pu : Nat → Bool) (pr : Nat → List AV → Option (Heap → Option (Eff × Acc))) : ZOk ⟨Tryz.tyT, fn, pu, pr⟩ npT F144 (G144 ⟨Tryz.tyT, fn, pu, pr⟩) := ⟨by kernel_rfl, by kernel_rfl, by kernel_rfl, fun cy Y k => by kernel_rfl⟩
noncomputable def F146 : FFn := cF LV 0 [0, 1, 2] Tryz.f146
noncomputable def G146 (E : Env) : ZFn := ⟨4, [0, 1, 2], fun cy Y fuel =>
  (zSeq (zReg fun k => (zStep E (cy Y) ⟨.box 40 (.v 0), (.var 1), none, false, 0, (some 0)⟩) ((zV 2 (vMv (.k .nilFunc))) k))
  (zSeq (zReg fun k => (zStep E (cy Y) ⟨.mkFunc 210 [(.v 1)], .push, none, false, 0, none⟩) ((zV 2 (vMv (.l 0))) k))
  zRet)), [.tmp (.v 2)]⟩
theorem G146_ok (fn : Nat → Option Func) (pu : Nat → Bool) (pr : Nat → List AV → Option (Heap → Option (Eff × Acc))) : ZOk ⟨Tryz.tyT, fn, pu, pr⟩ npT F146 (G146 ⟨Tryz.tyT, fn, pu, pr⟩) := ⟨by kernel_rfl, by kernel_rfl, by kernel_rfl, fun cy Y k => by kernel_rfl⟩
noncomputable def F147 : FFn := cF LV 0 [0, 3, 2, 1, 6] Tryz.f147
noncomputable def G147 (E : Env) : ZFn := ⟨12, [0, 3, 2, 1, 6], fun cy Y fuel =>
  (zSeq (zReg fun k => (zStep E (cy Y) ⟨.box 26 (.v 0), (.var 1), none, false, 0, (some 0)⟩) ((zV 4 (vMv (.k (.bool false)))) k))
  (zSeq (zReg fun k => (zL 2 true (.v 1)) ((zCall (cy Y) 104 [(.l 0), (.v 2)] .push) ((zCall (cy Y) 126 [(.l 0), (.v 3)] .push) ((zV 4 (vMv (.l 0))) k))))
  zRet)), [.tmp (.v 4)]⟩
theorem G147_ok (fn : Nat → Option Func) (pu : Nat → Bool) (pr : Nat → List AV → Option (Heap → Option (Eff × Acc))) : ZOk ⟨Tryz.tyT, fn, pu, pr⟩ npT F147 (G147 ⟨Tryz.tyT, fn, pu, pr⟩) := ⟨by kernel_rfl, by kernel_rfl, by kernel_rfl, fun cy Y k => by kernel_rfl⟩
noncomputable def F148 : FFn := cF LV 0 [2, 0, 1, 5, 10, 9, 11, 8, 6, 7] Tryz.f148
noncomputable def G148 (E : Env) : ZFn := ⟨51, [2, 0, 1, 5, 10, 9, 11, 8, 6, 7], fun cy Y fuel =>
  (zSeq (zReg fun k => (zStep E (cy Y) ⟨.box 38 (.v 0), (.var 3), none, false, 0, (some 0)⟩) ((zV 8 (vMv (.k (.bool false)))) ((zV 9 (vMv (.k .nilIface))) k)))
  (zSeq (zReg fun k => (zP (vNilCheck (.v 1))) ((zP (vFieldAddr 1 (.l 0))) ((zL 1 false (.l 0)) ((zCall (cy Y) 46 [(.l 0), (.v 2)] .push) ((zStep E (cy Y) ⟨.alloc 38, (.var 7), none, false, 6, (some 1)⟩) ((zStep E (cy Y) ⟨.store 38 (.v 7) (.l 0), .none, none, false, 7, none⟩) k))))))
  (zSeq (zDreg 1 fun n0 k => (zPD (vNilCheck (.v 1))) ((zPD (vFieldAddr 1 (.l 0))) ((zLD B41 3 1 false (.l 0)) ((zLD B41 5 5 true (.v 3)) ((zCallD (cy Y) B41 6 168 [(.l 1), (.v 2), (.l 0)] .push) ((zPD (vExtract 0 (.l 0))) ((zPD (vExtract 1 (.l 1))) ((zVD 5 (vMv (.l 1))) ((zVD 4 (vMv (.l 0))) k)))))))))
  (zSeq (zSeq (zReg fun k => (zP (vInt E fNeq .neq 55 false true (.v 4) (.k .nilIface))) ((zG (.l 0) false .push (zP (vMv (.v 5)))) ((zG (.l 1) false .push (zP (vNot (.l 0)))) ((zP (vPick (.l 2) (.k (.bool true)) (.l 0))) k))))
  (zCond (.l 0) (zSeq (zReg fun k => (zV 8 (vMv (.k (.bool false)))) ((zV 9 (vMv (.v 4))) k))
  zRet) zSkip))
  (zSeq (zSeq (zDreg 2 fun n0 k => (zPD (vNilCheck (.v 1))) ((zPD (vFieldAddr 2 (.l 0))) ((zLD B42 3 1 false (.l 0)) ((zLD B42 6 5 true (.v 3)) ((zCallD (cy Y) B42 7 131 [(.v 1), (.v 2), (.l 0)] .push) ((zCallD (cy Y) B42 8 211 [(.l 2), (.l 0)] .push) ((zVD 6 (vMv (.l 0))) k)))))))
  (zSeq (zReg fun k => (zP (vInt E fNeq .neq 55 false true (.v 6) (.k .nilIface))) k)
  (zCond (.l 0) (zSeq (zReg fun k => (zL 5 true (.v 7)) ((zCall (cy Y) 212 [(.v 1), (.v 2), (.l 0)] .push) k))
  (zSeq (zReg fun k => (zV 8 (vMv (.k (.bool false)))) ((zV 9 (vMv (.v 6))) k))
  zRet)) zSkip)))
  (zSeq (zReg fun k => (zV 8 (vMv (.k (.bool true)))) ((zV 9 (vMv (.k .nilIface))) k))
  zRet)))))), [.tmp (.v 8), .tmp (.v 9)]⟩
theorem G148_ok (fn : Nat → Option Func) (pu : Nat → Bool) (pr : Nat → List AV → Option (Heap → Option (Eff × Acc))) : ZOk ⟨Tryz.tyT, fn, pu, pr⟩ npT F148 (G148 ⟨Tryz.tyT, fn, pu, pr⟩) := ⟨by kernel_rfl, by kernel_rfl, by kernel_rfl, fun cy Y k => by kernel_rfl⟩
noncomputable def F149 : FFn := cF LV 0 [0, 1, 2, 3, 4, 5, 9, 6, 7] Tryz.f149
noncomputable def G149 (E : Env) : ZFn := ⟨31, [0, 1, 2, 3, 4, 5, 9, 6, 7], fun cy Y fuel =>
  (zSeq (zReg fun k => (zStep E (cy Y) ⟨.box 81 (.v 0), (.var 3), none, false, 0, (some 0)⟩) ((zStep E (cy Y) ⟨.box 38 (.v 1), (.var 4), none, false, 1, (some 1)⟩) ((zStep E (cy Y) ⟨.box 38 (.v 2), (.var 5), none, false, 2, (some 2)⟩) ((zStep E (cy Y) ⟨.alloc 38, (.var 7), none, false, 3, (some 3)⟩) ((zV 8 (vMv (.k .nilIface))) k)))))
  (zSeq (zSeq (zReg fun k => (zL 2 true (.v 3)) ((zL 5 true (.v 4)) ((zL 5 true (.v 5)) ((zCall (cy Y) 155 [(.l 2), (.l 1), (.l 0)] .push) ((zP (vExtract 0 (.l 0))) ((zP (vExtract 1 (.l 1))) ((zP (vMv (.l 1))) ((zV 6 (vMv (.l 1))) k))))))))
  (zSeq (zReg fun k => (zP (vInt E fNeq .neq 55 false true (.v 6) (.k .nilIface))) k)
  (zCond (.l 0) (zSeq (zReg fun k => (zStep E (cy Y) ⟨.build 38 [], .push, none, false, 0, none⟩) ((zStep E (cy Y) ⟨.store 38 (.v 7) (.l 0), .none, none, false, 2, none⟩) ((zV 8 (vMv (.v 6))) k)))
  zRet) zSkip)))
  (zSeq (zDreg 4 fun n0 k => (zLD B43 0 2 true (.v 3)) ((zLD B43 1 2 true (.v 3)) ((zLD B43 2 5 true (.v 5)) ((zCallD (cy Y) B43 3 215 [(.l 1), (.l 0)] .push) ((zStepD E (cy Y) B43 n0 ⟨.mkFunc 216 [(.v 3), (.v 4)], .push, none, false, 4, none⟩) ((zCallD (cy Y) B43 5 214 [(.l 1), (.l 0)] .push) ((zCallD (cy Y) B43 6 213 [(.l 0)] .push) ((zCallD (cy Y) B43 7 111 [(.l 6), (.l 0)] .push) ((zPD (vExtract 0 (.l 0))) ((zPD (vExtract 1 (.l 1))) ((zStepD E (cy Y) B43 n0 ⟨.store 38 (.v 7) (.l 1), .none, none, false, 10, none⟩) ((zVD 8 (vMv (.l 0))) k))))))))))))
  zRet))), [.cell (.v 7) 38, .tmp (.v 8)]⟩
theorem G149_ok (fn : Nat → Option Func) (pu : Nat → Bool) (pr : Nat → List AV → Option (Heap → Option (Eff × Acc))) : ZOk ⟨Tryz.tyT, fn, pu, pr⟩ npT F149 (G149 ⟨Tryz.tyT, fn, pu, pr⟩) := ⟨by kernel_rfl, by kernel_rfl, by kernel_rfl, fun cy Y k => by kernel_rfl⟩
noncomputable def F150 : FFn := cF LV 0 [0, 1, 2, 3, 4, 5, 6, 7] Tryz.f150
noncomputable def G150 (E : Env) : ZFn := ⟨26, [0, 1, 2, 3, 4, 5, 6, 7], fun cy Y fuel =>
  (zSeq (zReg fun k => (zStep E (cy Y) ⟨.box 81 (.v 0), (.var 3), none, false, 0, (some 0)⟩) ((zStep E (cy Y) ⟨.box 38 (.v 1), (.var 4), none, false, 1, (some 1)⟩) ((zStep E (cy Y) ⟨.box 38 (.v 2), (.var 5), none, false, 2, (some 2)⟩) ((zStep E (cy Y) ⟨.alloc 38, (.var 6), none, false, 3, (some 3)⟩) ((zV 7 (vMv (.k .nilIface))) k)))))
  (zSeq (zSeq (zReg fun k => (zL 2 true (.v 3)) ((zL 5 true (.v 4)) ((zStep E (cy Y) ⟨.call 141 [(.l 1), (.l 0)], .push, none, false, 2, (some 0)⟩) ((zP (vNot (.l 0))) ((zG (.l 0) false .push (zL 2 true (.v 3))) ((zG (.l 1) false .push (zL 5 true (.v 5))) ((zG (.l 2) false .push (zStep E (cy Y) ⟨.call 141 [(.l 1), (.l 0)], .push, none, false, 7, (some 1)⟩)) ((zG (.l 3) false .push (zP (vNot (.l 0)))) ((zP (vPick (.l 4) (.k (.bool true)) (.l 0))) k)))))))))
  (zCond (.l 0) (zSeq (zReg fun k => (zStep E (cy Y) ⟨.build 38 [], .push, none, false, 0, none⟩) ((zStep E (cy Y) ⟨.mkIface 66 (.k (.int .i64 14)), .push, none, false, 1, none⟩) ((zStep E (cy Y) ⟨.store 38 (.v 6) (.l 1), .none, none, false, 2, none⟩) ((zV 7 (vMv (.l 0))) k))))
  zRet) zSkip))
  (zSeq (zReg fun k => (zL 2 true (.v 3)) ((zL 5 true (.v 4)) ((zL 5 true (.v 5)) ((zCall (cy Y) 217 [(.l 2), (.l 1), (.l 0)] .push) ((zP (vExtract 0 (.l 0))) ((zP (vExtract 1 (.l 1))) ((zStep E (cy Y) ⟨.store 38 (.v 6) (.l 1), .none, none, false, 6, none⟩) ((zV 7 (vMv (.l 0))) k))))))))
  zRet))), [.cell (.v 6) 38, .tmp (.v 7)]⟩
theorem G150_ok (fn : Nat → Option Func) (pu : Nat → Bool) (pr : Nat → List AV → Option (Heap → Option (Eff × Acc))) : ZOk ⟨Tryz.tyT, fn, pu, pr⟩ npT F150 (G150 ⟨Tryz.tyT, fn, pu, pr⟩) := ⟨by kernel_rfl, by kernel_rfl, by kernel_rfl, fun cy Y k => by kernel_rfl⟩
noncomputable def F151 : FFn := cF LV 0 [0, 1, 7, 2] Tryz.f151
noncomputable def G151 (E : Env) : ZFn := ⟨34, [0, 1, 7, 2], fun cy Y fuel =>
  (zSeq (zReg fun k => (zP (vNilCheck (.v 0))) ((zP (vFieldAddr 0 (.l 0))) ((zL 1 false (.l 0)) ((zStep E (cy Y) ⟨.lookup 136 (.l 0) (.v 1) true, .push, none, false, 5, none⟩) ((zP (vExtract 0 (.l 0))) ((zP (vExtract 1 (.l 1))) ((zP (vMv (.l 1))) ((zV 2 (vMv (.l 1))) k))))))))
  (zSeq (zReg fun k => (zG (.v 2) false .push (zP (vMv (.v 0)))) ((zG (.v 2) false .push (zP (vNilCheck (.l 0)))) ((zG (.v 2) false .push (zP (vFieldAddr 0 (.l 0)))) ((zG (.v 2) false .push (zL 1 false (.l 0))) ((zG (.v 2) false .push (zStep E (cy Y) ⟨.len 136 (.l 0), .push, none, false, 6, none⟩)) ((zG (.v 2) false .push (zP (vMv (.v 3)))) ((zG (.v 2) false .push (zP (vInt E fLss .lss 3 false false (.l 1) (.l 0)))) ((zP (vPick (.v 2) (.k (.bool true)) (.l 0))) k))))))))
  (zCond (.l 0) (zReg fun k => (zP (vNilCheck (.v 0))) ((zP (vFieldAddr 0 (.l 0))) ((zL 1 false (.l 0)) ((zStep E (cy Y) ⟨.lookup 136 (.l 0) (.v 1) false, .push, none, false, 5, none⟩) ((zP (vInt E fAdd .add 3 false true (.l 0) (.k (.int .i64 1)))) ((zStep E (cy Y) ⟨.mapUp 136 (.l 2) (.v 1) (.l 0), .none, none, false, 7, none⟩) k)))))) zSkip))), []⟩
theorem G151_ok (fn : Nat → Option Func) (pu : Nat → Bool) (pr : Nat → List AV → Option (Heap → Option (Eff × Acc))) : ZOk ⟨Tryz.tyT, fn, pu, pr⟩ npT F151 (G151 ⟨Tryz.tyT, fn, pu, pr⟩) := ⟨by kernel_rfl, by kernel_rfl, by kernel_rfl, fun cy Y k => by kernel_rfl⟩
noncomputable def F155 : FFn := cF LV 0 [0, 1, 2, 3, 4, 5, 9, 17, 8, 6, 7] Tryz.f155
noncomputable def G155 (E : Env) : ZFn := ⟨27, [0, 1, 2, 3, 4, 5, 9, 17, 8, 6, 7], fun cy Y fuel =>
  (zSeq (zReg fun k => (zStep E (cy Y) ⟨.box 81 (.v 0), (.var 3), none, false, 0, (some 0)⟩) ((zStep E (cy Y) ⟨.box 38 (.v 1), (.var 4), none, false, 1, (some 1)⟩) ((zStep E (cy Y) ⟨.box 38 (.v 2), (.var 5), none, false, 2, (some 2)⟩) ((zV 9 (vMv (.k (.bool false)))) ((zV 10 (vMv (.k .nilIface))) k)))))
  (zSeq (zReg fun k => (zL 2 true (.v 3)) ((zL 5 true (.v 4)) ((zL 5 true (.v 5)) ((zCall (cy Y) 150 [(.l 2), (.l 1), (.l 0)] .push) ((zP (vExtract 0 (.l 0))) ((zP (vExtract 1 (.l 1))) ((zStep E (cy Y) ⟨.alloc 38, (.var 8), none, false, 7, (some 1)⟩) ((zStep E (cy Y) ⟨.store 38 (.v 8) (.l 1), .none, none, false, 8, none⟩) ((zV 6 (vMv (.l 0))) k)))))))))
  (zSeq (zSeq (zReg fun k => (zV 7 (vMv (.v 6))) k)
  (zBlock 0 (zSeq (zReg fun k => (zStep E (cy Y) ⟨.mkIface 66 (.k (.int .i64 14)), .push, none, false, 0, none⟩) ((zP (vInt E fEql .eql 55 false false (.v 7) (.l 0))) ((zP (vMv (.l 0))) k)))
  (zCond (.l 0) (zSeq (zReg fun k => (zStep E (cy Y) ⟨.mkIface 66 (.k (.int .i64 14)), .push, none, false, 0, none⟩) ((zV 9 (vMv (.k (.bool false)))) ((zV 10 (vMv (.l 0))) k)))
  zRet) (zSeq (zReg fun k => (zP (vInt E fEql .eql 55 false true (.v 7) (.k .nilIface))) ((zP (vMv (.l 0))) k))
  (zCond (.l 0) (zSeq (zReg fun k => (zL 5 true (.v 8)) ((zL 5 true (.v 5)) ((zStep E (cy Y) ⟨.call 136 [(.l 1), (.l 0)], .push, none, false, 2, (some 0)⟩) ((zV 9 (vMv (.l 0))) ((zV 10 (vMv (.k .nilIface))) k)))))
  zRet) zSkip))))))
  (zSeq (zReg fun k => (zV 9 (vMv (.k (.bool false)))) ((zV 10 (vMv (.k .nilIface))) k))
  zRet)))), [.tmp (.v 9), .tmp (.v 10)]⟩
theorem G155_ok (fn : Nat → Option Func) (pu : Nat → Bool) (pr : Nat → List AV → Option (Heap → Option (Eff × Acc))) : ZOk ⟨Tryz.tyT, fn, pu, pr⟩ npT F155 (G155 ⟨Tryz.tyT, fn, pu, pr⟩) := ⟨by kernel_rfl, by kernel_rfl, by kernel_rfl, fun cy Y k => by kernel_rfl⟩
noncomputable def F158 : FFn := cF LV 0 [0, 1, 2] Tryz.f158
noncomputable def G158 (E : Env) : ZFn := ⟨5, [0, 1, 2], fun cy Y fuel =>
  (zSeq (zReg fun k => (zStep E (cy Y) ⟨.box 81 (.v 0), (.var 1), none, false, 0, (some 0)⟩) ((zV 2 (vMv (.k (.bool false)))) k))
  (zSeq (zReg fun k => (zL 2 true (.v 1)) ((zCall (cy Y) 223 [(.l 0), (.k (.int .i64 16))] .push) ((zV 2 (vMv (.l 0))) k)))
  zRet)), [.tmp (.v 2)]⟩
theorem G158_ok (fn : Nat → Option Func) (pu : Nat → Bool) (pr : Nat → List AV → Option (Heap → Option (Eff × Acc))) : ZOk ⟨Tryz.tyT, fn, pu, pr⟩ npT F158 (G158 ⟨Tryz.tyT, fn, pu, pr⟩) := ⟨by kernel_rfl, by kernel_rfl, by kernel_rfl, fun cy Y k => by kernel_rfl⟩
noncomputable def F159 : FFn := cF LV 0 [0, 1, 3, 2] Tryz.f159
noncomputable def G159 (E : Env) : ZFn := ⟨20, [0, 1, 3, 2], fun cy Y fuel =>
  (zSeq (zReg fun k => (zStep E (cy Y) ⟨.box 81 (.v 0), (.var 1), none, false, 0, (some 0)⟩) ((zStep E (cy Y) ⟨.alloc 38, (.var 3), none, false, 1, (some 1)⟩) k))
  (zSeq (zReg fun k => (zStep E (cy Y) ⟨.alloc 38, (.var 2), none, false, 0, (some 0)⟩) k)
  (zSeq (zSeq (zReg fun k => (zP (vFieldAddr 0 (.v 1))) ((zL 1 false (.l 0)) ((zP (vInt E fEql .eql 3 false true (.l 0) (.k (.int .i64 5)))) k)))
  (zCond (.l 0) (zDreg 3 fun n0 k => (zPD (vFieldAddr 1 (.v 1))) ((zLD B44 1 1 false (.l 0)) ((zPD (vIndexAddr 2 (.l 0) (.k (.int .i64 0)))) ((zLD B44 3 2 true (.l 0)) ((zCallD (cy Y) B44 4 159 [(.l 0)] .push) ((zPD (vFieldAddr 1 (.v 1))) ((zLD B44 6 1 false (.l 0)) ((zPD (vIndexAddr 2 (.l 0) (.k (.int .i64 1)))) ((zLD B44 8 2 true (.l 0)) ((zCallD (cy Y) B44 9 159 [(.l 0)] .push) ((zStepD E (cy Y) B44 n0 ⟨.buildSlice 36 2 [(0, (.l 5)), (1, (.l 0))], .push, none, false, 10, (some 2)⟩) ((zPD (vFieldAddr 4 (.v 2))) ((zStepD E (cy Y) B44 n0 ⟨.store 36 (.l 0) (.l 1), .none, none, false, 12, none⟩) k))))))))))))) zSkip))
  (zSeq (zReg fun k => (zL 5 true (.v 2)) ((zStep E (cy Y) ⟨.store 38 (.v 3) (.l 0), .none, none, false, 1, none⟩) k))
  zRet)))), [.cell (.v 3) 38]⟩
theorem G159_ok (fn : Nat → Option Func) (pu : Nat → Bool) (pr : Nat → List AV → Option (Heap → Option (Eff × Acc))) : ZOk ⟨Tryz.tyT, fn, pu, pr⟩ npT F159 (G159 ⟨Tryz.tyT, fn, pu, pr⟩) := ⟨by kernel_rfl, by kernel_rfl, by kernel_rfl, fun cy Y k => by kernel_rfl⟩
noncomputable def F160 : FFn := cF LV 0 [1, 0, 8, 9, 10, 2, 11, 4, 6, 7] Tryz.f160
noncomputable def G160 (E : Env) : ZFn := ⟨49, [1, 0, 8, 9, 10, 2, 11, 4, 6, 7], fun cy Y fuel =>
  (zSeq (zReg fun k => (zStep E (cy Y) ⟨.box 131 (.v 0), (.var 7), none, false, 0, (some 0)⟩) ((zV 8 (vMv (.k (.int .i64 0)))) ((zV 9 (vMv (.k (.bool false)))) k)))
  (zSeq (zReg fun k => (zP (vLenL (.v 1))) ((zV 2 (vMv (.l 0))) k))
  (zSeq (zReg fun k => (zV 3 (vMv (.k (.int .i64 0)))) ((zV 4 (vMv (.v 2))) k))
  (zSeq (zBlock 0 (zLoop fuel (zSeq (zSeq (zReg fun k => (zP (vInt E fLss .lss 3 false false (.v 3) (.v 4))) k)
  (zCond (.l 0) zSkip (zExit 0)))
  (zBlock 1 (zSeq (zReg fun k => (zP (vInt E fAdd .add 3 false false (.v 3) (.v 4))) ((zP (vConv .u64 (.l 0))) ((zP (vBin E .shr 302 false true (.l 0) (.k (.int .u64 1)))) ((zP (vConv .i64 (.l 0))) ((zV 6 (vMv (.l 0))) k)))))
  (zSeq (zDreg 1 fun n0 k => (zPD (vIndexAddr 3 (.v 1) (.v 6))) ((zLD B45 4 3 true (.l 0)) ((zLD B45 5 3 true (.v 7)) ((zStepD E (cy Y) B45 n0 ⟨.callv (.v 5) [(.l 1), (.l 0)], .push, none, false, 6, (some 0)⟩) ((zPD (vInt E fLss .lss 3 false true (.l 0) (.k (.int .i64 0)))) k)))))
  (zCond (.l 0) (zReg fun k => (zP (vInt E fAdd .add 3 false true (.v 6) (.k (.int .i64 1)))) ((zV 3 (vMv (.l 0))) k)) (zReg fun k => (zV 4 (vMv (.v 6))) k))))))))
  (zSeq (zDreg 1 fun n0 k => (zPD (vInt E fLss .lss 3 false false (.v 3) (.v 2))) ((zGD (.l 0) true .push (zPD (vMv (.v 5)))) ((zGD (.l 1) true .push (zPD (vMv (.v 1)))) ((zGD (.l 2) true .push (zPD (vMv (.v 3)))) ((zGD (.l 3) true .push (zPD (vIndexAddr 3 (.l 1) (.l 0)))) ((zGD (.l 4) true .push (zLD B46 9 3 true (.l 0))) ((zGD (.l 5) true .push (zLD B46 10 3 true (.v 7))) ((zGD (.l 6) true .push (zStepD E (cy Y) B46 n0 ⟨.callv (.l 5) [(.l 1), (.l 0)], .push, none, false, 11, (some 0)⟩)) ((zGD (.l 7) true .push (zPD (vInt E fEql .eql 3 false true (.l 0) (.k (.int .i64 0))))) ((zPD (vPick (.l 8) (.l 0) (.k (.bool false)))) ((zVD 8 (vMv (.v 3))) ((zVD 9 (vMv (.l 0))) k))))))))))))
  zRet))))), [.tmp (.v 8), .tmp (.v 9)]⟩
theorem G160_ok (fn : Nat → Option Func) (pu : Nat → Bool) (pr : Nat → List AV → Option (Heap → Option (Eff × Acc))) : ZOk ⟨Tryz.tyT, fn, pu, pr⟩ npT F160 (G160 ⟨Tryz.tyT, fn, pu, pr⟩) := ⟨by kernel_rfl, by kernel_rfl, by kernel_rfl, fun cy Y k => by kernel_rfl⟩
noncomputable def F162 : FFn := cF LV 0 [0, 1, 4] Tryz.f162
noncomputable def G162 (E : Env) : ZFn := ⟨8, [0, 1, 4], fun cy Y fuel =>
  (zSeq (zReg fun k => (zV 2 (vMv (.k (.int .i64 0)))) k)
  (zSeq (zReg fun k => (zCall (cy Y) 226 [(.v 0), (.v 1)] .push) ((zV 2 (vMv (.l 0))) k))
  zRet)), [.tmp (.v 2)]⟩
theorem G162_ok (fn : Nat → Option Func) (pu : Nat → Bool) (pr : Nat → List AV → Option (Heap → Option (Eff × Acc))) : ZOk ⟨Tryz.tyT, fn, pu, pr⟩ npT F162 (G162 ⟨Tryz.tyT, fn, pu, pr⟩) := ⟨by kernel_rfl, by kernel_rfl, by kernel_rfl, fun cy Y k => by kernel_rfl⟩
noncomputable def F163 : FFn := cF LV 0 [0, 2] Tryz.f163
noncomputable def G163 (E : Env) : ZFn := ⟨6, [0, 2], fun cy Y fuel =>
  (zSeq (zReg fun k => (zV 1 (vMv (.k (.bool false)))) k)
  (zSeq (zReg fun k => (zP (vInt E fNeq .neq 33 false false (.v 0) (.v 0))) ((zV 1 (vMv (.l 0))) k))
  zRet)), [.tmp (.v 1)]⟩
theorem G163_ok (fn : Nat → Option Func) (pu : Nat → Bool) (pr : Nat → List AV → Option (Heap → Option (Eff × Acc))) : ZOk ⟨Tryz.tyT, fn, pu, pr⟩ npT F163 (G163 ⟨Tryz.tyT, fn, pu, pr⟩) := ⟨by kernel_rfl, by kernel_rfl, by kernel_rfl, fun cy Y k => by kernel_rfl⟩
noncomputable def F164 : FFn := cF LV 0 [1, 0, 8, 9, 10, 2, 11, 4, 6, 7] Tryz.f164
noncomputable def G164 (E : Env) : ZFn := ⟨49, [1, 0, 8, 9, 10, 2, 11, 4, 6, 7], fun cy Y fuel =>
  (zSeq (zReg fun k => (zStep E (cy Y) ⟨.box 77 (.v 0), (.var 7), none, false, 0, (some 0)⟩) ((zV 8 (vMv (.k (.int .i64 0)))) ((zV 9 (vMv (.k (.bool false)))) k)))
  (zSeq (zReg fun k => (zP (vLenL (.v 1))) ((zV 2 (vMv (.l 0))) k))
  (zSeq (zReg fun k => (zV 3 (vMv (.k (.int .i64 0)))) ((zV 4 (vMv (.v 2))) k))
  (zSeq (zBlock 0 (zLoop fuel (zSeq (zSeq (zReg fun k => (zP (vInt E fLss .lss 3 false false (.v 3) (.v 4))) k)
  (zCond (.l 0) zSkip (zExit 0)))
  (zBlock 1 (zSeq (zReg fun k => (zP (vInt E fAdd .add 3 false false (.v 3) (.v 4))) ((zP (vConv .u64 (.l 0))) ((zP (vBin E .shr 302 false true (.l 0) (.k (.int .u64 1)))) ((zP (vConv .i64 (.l 0))) ((zV 6 (vMv (.l 0))) k)))))
  (zSeq (zDreg 1 fun n0 k => (zPD (vIndexAddr 2 (.v 1) (.v 6))) ((zLD B45 4 2 true (.l 0)) ((zLD B45 5 2 true (.v 7)) ((zStepD E (cy Y) B45 n0 ⟨.callv (.v 5) [(.l 1), (.l 0)], .push, none, false, 6, (some 0)⟩) ((zPD (vInt E fLss .lss 3 false true (.l 0) (.k (.int .i64 0)))) k)))))
  (zCond (.l 0) (zReg fun k => (zP (vInt E fAdd .add 3 false true (.v 6) (.k (.int .i64 1)))) ((zV 3 (vMv (.l 0))) k)) (zReg fun k => (zV 4 (vMv (.v 6))) k))))))))
  (zSeq (zDreg 1 fun n0 k => (zPD (vInt E fLss .lss 3 false false (.v 3) (.v 2))) ((zGD (.l 0) true .push (zPD (vMv (.v 5)))) ((zGD (.l 1) true .push (zPD (vMv (.v 1)))) ((zGD (.l 2) true .push (zPD (vMv (.v 3)))) ((zGD (.l 3) true .push (zPD (vIndexAddr 2 (.l 1) (.l 0)))) ((zGD (.l 4) true .push (zLD B46 9 2 true (.l 0))) ((zGD (.l 5) true .push (zLD B46 10 2 true (.v 7))) ((zGD (.l 6) true .push (zStepD E (cy Y) B46 n0 ⟨.callv (.l 5) [(.l 1), (.l 0)], .push, none, false, 11, (some 0)⟩)) ((zGD (.l 7) true .push (zPD (vInt E fEql .eql 3 false true (.l 0) (.k (.int .i64 0))))) ((zPD (vPick (.l 8) (.l 0) (.k (.bool false)))) ((zVD 8 (vMv (.v 3))) ((zVD 9 (vMv (.l 0))) k))))))))))))
  zRet))))), [.tmp (.v 8), .tmp (.v 9)]⟩
theorem G164_ok (fn : Nat → Option Func) (pu : Nat → Bool) (pr : Nat → List AV → Option (Heap → Option (Eff × Acc))) : ZOk ⟨Tryz.tyT, fn, pu, pr⟩ npT F164 (G164 ⟨Tryz.tyT, fn, pu, pr⟩) := ⟨by kernel_rfl, by kernel_rfl, by kernel_rfl, fun cy Y k => by kernel_rfl⟩
noncomputable def F166 : FFn := cF LV 0 [0, 1, 5, 6, 4] Tryz.f166
noncomputable def G166 (E : Env) : ZFn := ⟨20, [0, 1, 5, 6, 4], fun cy Y fuel =>
  (zSeq (zReg fun k => (zV 4 (vMv (.k (.int .i64 0)))) k)
  (zSeq (zReg fun k => (zCall (cy Y) 229 [(.v 0)] .push) ((zV 2 (vMv (.l 0))) k))
  (zSeq (zReg fun k => (zCall (cy Y) 229 [(.v 1)] .push) ((zV 3 (vMv (.l 0))) k))
  (zSeq (zSeq (zReg fun k => k)
  (zCond (.v 2) (zSeq (zSeq (zReg fun k => k)
  (zCond (.v 3) (zSeq (zReg fun k => (zV 4 (vMv (.k (.int .i64 0)))) k)
  zRet) zSkip))
  (zSeq (zReg fun k => (zV 4 (vMv (.k (.int .i64 (-1))))) k)
  zRet)) zSkip))
  (zSeq (zSeq (zReg fun k => k)
  (zCond (.v 3) (zSeq (zReg fun k => (zV 4 (vMv (.k (.int .i64 1)))) k)
  zRet) zSkip))
  (zSeq (zSeq (zReg fun k => (zP (vInt E fLss .lss 3 false false (.v 0) (.v 1))) k)
  (zCond (.l 0) (zSeq (zReg fun k => (zV 4 (vMv (.k (.int .i64 (-1))))) k)
  zRet) zSkip))
  (zSeq (zSeq (zReg fun k => (zP (vInt E fGtr .gtr 3 false false (.v 0) (.v 1))) k)
  (zCond (.l 0) (zSeq (zReg fun k => (zV 4 (vMv (.k (.int .i64 1)))) k)
  zRet) zSkip))
  (zSeq (zReg fun k => (zV 4 (vMv (.k (.int .i64 0)))) k)
  zRet)))))))), [.tmp (.v 4)]⟩
theorem G166_ok (fn : Nat → Option Func) (pu : Nat → Bool) (pr : Nat → List AV → Option (Heap → Option (Eff × Acc))) : ZOk ⟨Tryz.tyT, fn, pu, pr⟩ npT F166 (G166 ⟨Tryz.tyT, fn, pu, pr⟩) := ⟨by kernel_rfl, by kernel_rfl, by kernel_rfl, fun cy Y k => by kernel_rfl⟩
noncomputable def F167 : FFn := cF LV 0 [0, 1, 7, 2, 6] Tryz.f167
noncomputable def G167 (E : Env) : ZFn := ⟨18, [0, 1, 7, 2, 6], fun cy Y fuel =>
  (zSeq (zReg fun k => (zV 4 (vMv (.k (.sl 0 [] true)))) k)
  (zSeq (zReg fun k => (zCall (cy Y) 230 [(.v 0), (.v 1)] .push) ((zV 2 (vMv (.l 0))) k))
  (zSeq (zReg fun k => (zStep E (cy Y) ⟨.most true [(.v 3), (.k (.int .i64 0))], .push, none, false, 2, none⟩) ((zP (vLenL (.v 2))) ((zStep E (cy Y) ⟨.most false [(.l 1), (.l 0)], .push, none, false, 5, none⟩) ((zStep E (cy Y) ⟨.slice 98 (.v 2) none (some (.l 0)) none, .push, none, false, 6, none⟩) ((zV 4 (vMv (.l 0))) k)))))
  zRet))), [.tmp (.v 4)]⟩
theorem G167_ok (fn : Nat → Option Func) (pu : Nat → Bool) (pr : Nat → List AV → Option (Heap → Option (Eff × Acc))) : ZOk ⟨Tryz.tyT, fn, pu, pr⟩ npT F167 (G167 ⟨Tryz.tyT, fn, pu, pr⟩) := ⟨by kernel_rfl, by kernel_rfl, by kernel_rfl, fun cy Y k => by kernel_rfl⟩
noncomputable def F168 : FFn := cF LV 0 [2, 0, 1, 5, 10, 9, 8, 6, 7] Tryz.f168
noncomputable def G168 (E : Env) : ZFn := ⟨32, [2, 0, 1, 5, 10, 9, 8, 6, 7], fun cy Y fuel =>
  (zSeq (zReg fun k => (zStep E (cy Y) ⟨.box 38 (.v 0), (.var 3), none, false, 0, (some 0)⟩) ((zV 7 (vMv (.k (.bool false)))) ((zV 8 (vMv (.k .nilIface))) k)))
  (zSeq (zReg fun k => (zL 5 true (.v 3)) ((zCall (cy Y) 231 [(.v 1), (.v 2), (.l 0)] .push) ((zP (vExtract 0 (.l 0))) ((zP (vExtract 1 (.l 1))) ((zP (vExtract 2 (.l 2))) ((zStep E (cy Y) ⟨.alloc 38, (.var 6), none, false, 8, (some 1)⟩) ((zStep E (cy Y) ⟨.store 38 (.v 6) (.l 2), .none, none, false, 9, none⟩) ((zV 5 (vMv (.l 1))) ((zV 4 (vMv (.l 0))) k)))))))))
  (zSeq (zSeq (zReg fun k => (zP (vInt E fNeq .neq 55 false true (.v 4) (.k .nilIface))) ((zG (.l 0) false .push (zP (vMv (.v 5)))) ((zG (.l 1) false .push (zP (vNot (.l 0)))) ((zP (vPick (.l 2) (.k (.bool true)) (.l 0))) k))))
  (zCond (.l 0) (zSeq (zReg fun k => (zV 7 (vMv (.k (.bool false)))) ((zV 8 (vMv (.v 4))) k))
  zRet) zSkip))
  (zSeq (zDreg 1 fun n0 k => (zPD (vNilCheck (.v 1))) ((zPD (vFieldAddr 1 (.l 0))) ((zLD B47 4 5 true (.v 6)) ((zCallD (cy Y) B47 5 232 [(.l 1), (.v 2), (.l 0)] .push) k))))
  (zSeq (zReg fun k => (zV 7 (vMv (.k (.bool true)))) ((zV 8 (vMv (.k .nilIface))) k))
  zRet))))), [.tmp (.v 7), .tmp (.v 8)]⟩
theorem G168_ok (fn : Nat → Option Func) (pu : Nat → Bool) (pr : Nat → List AV → Option (Heap → Option (Eff × Acc))) : ZOk ⟨Tryz.tyT, fn, pu, pr⟩ npT F168 (G168 ⟨Tryz.tyT, fn, pu, pr⟩) := ⟨by kernel_rfl, by kernel_rfl, by kernel_rfl, fun cy Y k => by kernel_rfl⟩
noncomputable def F169 : FFn := cF LV 0 [1, 7, 6, 5, 0, 4] Tryz.f169
noncomputable def G169 (E : Env) : ZFn := ⟨16, [1, 7, 6, 5, 0, 4], fun cy Y fuel =>
  (zSeq (zReg fun k => (zDstW (.var 3) (wLoad 1 false (.v 0))) ((zV 2 (vLenL (.v 3))) ((zV 1 (vMv (.k (.int .i64 0)))) k)))
  (zBlock 0 (zLoop fuel (zSeq (zReg fun k => (zP (vInt E fLss .lss 3 false false (.v 1) (.v 2))) k)
  (zSeq (zCond (.l 0) zSkip (zExit 0))
  (zSeq (zBlock 1 (zSeq (zReg fun k => (zP (vIndexAddr 1 (.v 3) (.v 1))) ((zL 1 false (.l 0)) ((zV 5 (vMv (.l 0))) k)))
  (zSeq (zReg fun k => (zStep E (cy Y) ⟨.callv (.v 4) [(.v 5)], .push, none, false, 2, (some 0)⟩) ((zP (vNot (.l 0))) k))
  (zCond (.l 0) zRet zSkip))))
  (zReg fun k => (zP (vInt E fAdd .add 3 false true (.v 1) (.k (.int .i64 1)))) ((zV 1 (vMv (.l 0))) k)))))))), []⟩
theorem G169_ok (fn : Nat → Option Func) (pu : Nat → Bool) (pr : Nat → List AV → Option (Heap → Option (Eff × Acc))) : ZOk ⟨Tryz.tyT, fn, pu, pr⟩ npT F169 (G169 ⟨Tryz.tyT, fn, pu, pr⟩) := ⟨by kernel_rfl, by kernel_rfl, by kernel_rfl, fun cy Y k => by kernel_rfl⟩
noncomputable def F174 : FFn := cF LV 0 [0, 1, 2] Tryz.f174
noncomputable def G174 (E : Env) : ZFn := ⟨4, [0, 1, 2], fun cy Y fuel =>
  (zSeq (zReg fun k => (zStep E (cy Y) ⟨.box 36 (.v 0), (.var 1), none, false, 0, (some 0)⟩) ((zV 2 (vMv (.k .nilFunc))) k))
  (zSeq (zReg fun k => (zStep E (cy Y) ⟨.mkFunc 242 [(.v 1)], .push, none, false, 0, none⟩) ((zV 2 (vMv (.l 0))) k))
  zRet)), [.tmp (.v 2)]⟩
theorem G174_ok (fn : Nat → Option Func) (pu : Nat → Bool) (pr : Nat → List AV → Option (Heap → Option (Eff × Acc))) : ZOk ⟨Tryz.tyT, fn, pu, pr⟩ npT F174 (G174 ⟨Tryz.tyT, fn, pu, pr⟩) := ⟨by kernel_rfl, by kernel_rfl, by kernel_rfl, fun cy Y k => by kernel_rfl⟩
noncomputable def F179 : FFn := cF LV 0 [0, 1, 2, 3, 4] Tryz.f179
noncomputable def G179 (E : Env) : ZFn := ⟨6, [0, 1, 2, 3, 4], fun cy Y fuel =>
  (zSeq (zReg fun k => (zStep E (cy Y) ⟨.box 295 (.v 0), (.var 2), none, false, 0, (some 0)⟩) ((zStep E (cy Y) ⟨.box 3 (.v 1), (.var 3), none, false, 1, (some 1)⟩) ((zV 4 (vMv (.k .nilFunc))) k)))
  (zSeq (zReg fun k => (zStep E (cy Y) ⟨.mkFunc 248 [(.v 2), (.v 3)], .push, none, false, 0, none⟩) ((zV 4 (vMv (.l 0))) k))
  zRet)), [.tmp (.v 4)]⟩
theorem G179_ok (fn : Nat → Option Func) (pu : Nat → Bool) (pr : Nat → List AV → Option (Heap → Option (Eff × Acc))) : ZOk ⟨Tryz.tyT, fn, pu, pr⟩ npT F179 (G179 ⟨Tryz.tyT, fn, pu, pr⟩) := ⟨by kernel_rfl, by kernel_rfl, by kernel_rfl, fun cy Y k => by kernel_rfl⟩
noncomputable def F180 : FFn := cF LV 0 [0, 1, 6, 4] Tryz.f180
noncomputable def G180 (E : Env) : ZFn := ⟨14, [0, 1, 6, 4], fun cy Y fuel =>
  (zSeq (zReg fun k => (zV 3 (vMv (.k (.bool false)))) k)
  (zSeq (zReg fun k => (zCall (cy Y) 249 [(.v 0), (.v 1)] .push) ((zP (vExtract 0 (.l 0))) ((zP (vExtract 1 (.l 1))) ((zP (vMv (.l 1))) ((zV 2 (vMv (.l 1))) k)))))
  (zSeq (zReg fun k => (zV 3 (vMv (.v 2))) k)
  zRet))), [.tmp (.v 3)]⟩
theorem G180_ok (fn : Nat → Option Func) (pu : Nat → Bool) (pr : Nat → List AV → Option (Heap → Option (Eff × Acc))) : ZOk ⟨Tryz.tyT, fn, pu, pr⟩ npT F180 (G180 ⟨Tryz.tyT, fn, pu, pr⟩) := ⟨by kernel_rfl, by kernel_rfl, by kernel_rfl, fun cy Y k => by kernel_rfl⟩
noncomputable def F181 : FFn := cF LV 0 [0, 1, 4] Tryz.f181
noncomputable def G181 (E : Env) : ZFn := ⟨9, [0, 1, 4], fun cy Y fuel =>
  (zSeq (zReg fun k => (zV 2 (vMv (.k (.sl 0 [] true)))) k)
  (zSeq (zReg fun k => (zStep E (cy Y) ⟨.buildSlice 34 1 [(0, (.v 1))], .push, none, false, 2, (some 0)⟩) ((zStep E (cy Y) ⟨.call 183 [(.v 0), (.l 0)], .push, none, false, 3, (some 1)⟩) ((zV 2 (vMv (.l 0))) k)))
  zRet)), [.tmp (.v 2)]⟩
theorem G181_ok (fn : Nat → Option Func) (pu : Nat → Bool) (pr : Nat → List AV → Option (Heap → Option (Eff × Acc))) : ZOk ⟨Tryz.tyT, fn, pu, pr⟩ npT F181 (G181 ⟨Tryz.tyT, fn, pu, pr⟩) := ⟨by kernel_rfl, by kernel_rfl, by kernel_rfl, fun cy Y k => by kernel_rfl⟩
noncomputable def F182 : FFn := cF LV 13 [1, 0, 3, 5, 4] Tryz.f182
noncomputable def G182 (E : Env) : ZFn := ⟨18, [1, 0, 3, 5, 4], fun cy Y fuel =>
  (zSeq (zReg fun k => (zStep E (cy Y) ⟨.box 9 (.v 0), (.var 2), none, false, 0, (some 0)⟩) ((zV 4 (vMv (.k (.sl 0 [] true)))) k))
  (zSeq (zReg fun k => (zStep E (cy Y) ⟨.alloc 34, (.var 3), none, false, 0, (some 0)⟩) k)
  (zSeq (zSeq (zReg fun k => (zCall (cy Y) 250 [(.v 1), (.k (.sl 0 [] true))] .push) k)
  (zBlock 0 (zRange cy Y (.l 0) 13 [none, none, (some (.v 2)), (some (.v 3))] [none, none, none, (some (.v 2)), none, (some (.v 3)), none, none, none, none, none, none, none, none, none, none, none, none] [9] (codeAt [1, 1, 0, 1, 0, 0] (bodyOf Tryz.f182)) (codeAt [1, 1, 0, 1, 0, 1] (bodyOf Tryz.f182)))))
  (zSeq (zReg fun k => (zL 1 false (.v 3)) ((zV 4 (vMv (.l 0))) k))
  zRet)))), [.tmp (.v 4)]⟩
theorem G182_ok (fn : Nat → Option Func) (pu : Nat → Bool) (pr : Nat → List AV → Option (Heap → Option (Eff × Acc))) : ZOk ⟨Tryz.tyT, fn, pu, pr⟩ npT F182 (G182 ⟨Tryz.tyT, fn, pu, pr⟩) := ⟨by kernel_rfl, by kernel_rfl, by kernel_rfl, fun cy Y k => by kernel_rfl⟩
noncomputable def F183 : FFn := cF LV 14 [0, 1, 5, 4] Tryz.f183
noncomputable def G183 (E : Env) : ZFn := ⟨16, [0, 1, 5, 4], fun cy Y fuel =>
  (zSeq (zReg fun k => (zV 3 (vMv (.k (.sl 0 [] true)))) k)
  (zSeq (zReg fun k => (zStep E (cy Y) ⟨.alloc 34, (.var 2), none, false, 0, (some 0)⟩) k)
  (zSeq (zSeq (zReg fun k => (zCall (cy Y) 250 [(.v 0), (.v 1)] .push) k)
  (zBlock 0 (zRange cy Y (.l 0) 14 [none, (some (.v 2)), none] [none, none, none, none, none, (some (.v 2)), none, none, none, none, none, none, none, none, none, none] [10] (codeAt [1, 1, 0, 1, 0, 0] (bodyOf Tryz.f183)) (codeAt [1, 1, 0, 1, 0, 1] (bodyOf Tryz.f183)))))
  (zSeq (zReg fun k => (zL 1 false (.v 2)) ((zV 3 (vMv (.l 0))) k))
  zRet)))), [.tmp (.v 3)]⟩
theorem G183_ok (fn : Nat → Option Func) (pu : Nat → Bool) (pr : Nat → List AV → Option (Heap → Option (Eff × Acc))) : ZOk ⟨Tryz.tyT, fn, pu, pr⟩ npT F183 (G183 ⟨Tryz.tyT, fn, pu, pr⟩) := ⟨by kernel_rfl, by kernel_rfl, by kernel_rfl, fun cy Y k => by kernel_rfl⟩
noncomputable def F184 : FFn := cF LV 0 [0, 2, 1, 7, 4, 6, 5] Tryz.f184
noncomputable def G184 (E : Env) : ZFn := ⟨24, [0, 2, 1, 7, 4, 6, 5], fun cy Y fuel =>
  (zSeq (zReg fun k => (zStep E (cy Y) ⟨.box 26 (.v 0), (.var 1), none, false, 0, (some 0)⟩) ((zStep E (cy Y) ⟨.alloc 131, (.var 4), none, false, 1, (some 1)⟩) ((zV 6 (vMv (.k (.bool false)))) k)))
  (zSeq (zReg fun k => (zP (vFieldAddr 1 (.v 1))) ((zL 1 false (.l 0)) ((zStep E (cy Y) ⟨.build 131 [(0, (.v 2))], .push, none, false, 3, none⟩) ((zCall (cy Y) 160 [(.l 1), (.l 0), (.k (.clo 97 []))] .push) ((zP (vExtract 0 (.l 0))) ((zP (vExtract 1 (.l 1))) ((zV 5 (vMv (.l 1))) ((zV 3 (vMv (.l 0))) k))))))))
  (zSeq (zSeq (zReg fun k => (zP (vNot (.v 3))) k)
  (zCond (.l 0) (zSeq (zReg fun k => (zStep E (cy Y) ⟨.build 131 [], .push, none, false, 0, none⟩) ((zStep E (cy Y) ⟨.store 131 (.v 4) (.l 0), .none, none, false, 1, none⟩) ((zV 6 (vMv (.k (.bool false)))) k)))
  zRet) zSkip))
  (zSeq (zReg fun k => (zP (vFieldAddr 1 (.v 1))) ((zL 1 false (.l 0)) ((zP (vIndexAddr 3 (.l 0) (.v 5))) ((zL 3 true (.l 0)) ((zStep E (cy Y) ⟨.store 131 (.v 4) (.l 0), .none, none, false, 5, none⟩) ((zV 6 (vMv (.k (.bool true)))) k))))))
  zRet)))), [.cell (.v 4) 131, .tmp (.v 6)]⟩
theorem G184_ok (fn : Nat → Option Func) (pu : Nat → Bool) (pr : Nat → List AV → Option (Heap → Option (Eff × Acc))) : ZOk ⟨Tryz.tyT, fn, pu, pr⟩ npT F184 (G184 ⟨Tryz.tyT, fn, pu, pr⟩) := ⟨by kernel_rfl, by kernel_rfl, by kernel_rfl, fun cy Y k => by kernel_rfl⟩
noncomputable def F185 : FFn := cF LV 0 [0, 1, 3, 4] Tryz.f185
noncomputable def G185 (E : Env) : ZFn := ⟨6, [0, 1, 3, 4], fun cy Y fuel =>
  (zSeq (zReg fun k => (zStep E (cy Y) ⟨.box 131 (.v 0), .push, none, false, 0, (some 0)⟩) ((zStep E (cy Y) ⟨.box 131 (.v 1), (.var 2), none, false, 1, (some 1)⟩) ((zStep E (cy Y) ⟨.alloc 131, (.var 3), none, false, 2, (some 2)⟩) k)))
  (zSeq (zReg fun k => (zL 3 true (.v 2)) ((zStep E (cy Y) ⟨.store 131 (.v 3) (.l 0), .none, none, false, 1, none⟩) k))
  zRet)), [.cell (.v 3) 131]⟩
theorem G185_ok (fn : Nat → Option Func) (pu : Nat → Bool) (pr : Nat → List AV → Option (Heap → Option (Eff × Acc))) : ZOk ⟨Tryz.tyT, fn, pu, pr⟩ npT F185 (G185 ⟨Tryz.tyT, fn, pu, pr⟩) := ⟨by kernel_rfl, by kernel_rfl, by kernel_rfl, fun cy Y k => by kernel_rfl⟩
noncomputable def F189 : FFn := cF LV 0 [0, 1, 2] Tryz.f189
noncomputable def G189 (E : Env) : ZFn := ⟨4, [0, 1, 2], fun cy Y fuel =>
  (zSeq (zReg fun k => (zStep E (cy Y) ⟨.box 328 (.v 0), (.var 1), none, false, 0, (some 0)⟩) ((zV 2 (vMv (.k .nilFunc))) k))
  (zSeq (zReg fun k => (zStep E (cy Y) ⟨.mkFunc 253 [(.v 1)], .push, none, false, 0, none⟩) ((zV 2 (vMv (.l 0))) k))
  zRet)), [.tmp (.v 2)]⟩
theorem G189_ok (fn : Nat → Option Func) (pu : Nat → Bool) (pr : Nat → List AV → Option (Heap → Option (Eff × Acc))) : ZOk ⟨Tryz.tyT, fn, pu, pr⟩ npT F189 (G189 ⟨Tryz.tyT, fn, pu, pr⟩) := ⟨by kernel_rfl, by kernel_rfl, by kernel_rfl, fun cy Y k => by kernel_rfl⟩
noncomputable def F190 : FFn := cF LV 0 [0, 8, 7, 1, 5, 4] Tryz.f190
noncomputable def G190 (E : Env) : ZFn := ⟨19, [0, 8, 7, 1, 5, 4], fun cy Y fuel =>
  (zSeq (zReg fun k => (zV 5 (vMv (.k (.int .i64 0)))) k)
  (zSeq (zSeq (zReg fun k => (zV 2 (vLenL (.v 0))) ((zV 1 (vMv (.k (.int .i64 0)))) k))
  (zBlock 0 (zLoop fuel (zSeq (zReg fun k => (zP (vInt E fLss .lss 3 false false (.v 1) (.v 2))) k)
  (zSeq (zCond (.l 0) zSkip (zExit 0))
  (zSeq (zBlock 1 (zSeq (zReg fun k => (zV 4 (vMv (.v 1))) k)
  (zSeq (zReg fun k => (zP (vIndexAddr 1 (.v 0) (.v 4))) ((zL 1 false (.l 0)) ((zP (vInt E fEql .eql 3 false false (.v 3) (.l 0))) k)))
  (zCond (.l 0) (zSeq (zReg fun k => (zV 5 (vMv (.v 4))) k)
  zRet) zSkip))))
  (zReg fun k => (zP (vInt E fAdd .add 3 false true (.v 1) (.k (.int .i64 1)))) ((zV 1 (vMv (.l 0))) k))))))))
  (zSeq (zReg fun k => (zV 5 (vMv (.k (.int .i64 (-1))))) k)
  zRet))), [.tmp (.v 5)]⟩
theorem G190_ok (fn : Nat → Option Func) (pu : Nat → Bool) (pr : Nat → List AV → Option (Heap → Option (Eff × Acc))) : ZOk ⟨Tryz.tyT, fn, pu, pr⟩ npT F190 (G190 ⟨Tryz.tyT, fn, pu, pr⟩) := ⟨by kernel_rfl, by kernel_rfl, by kernel_rfl, fun cy Y k => by kernel_rfl⟩
noncomputable def F191 : FFn := cF LV 0 [0, 2] Tryz.f191
noncomputable def G191 (E : Env) : ZFn := ⟨13, [0, 2], fun cy Y fuel =>
  (zSeq (zReg fun k => (zV 1 (vMv (.k (.int .i64 0)))) k)
  (zSeq (zDreg 0 fun n0 k => (zPD (vNilCheck (.v 0))) ((zPD (vFieldAddr 0 (.l 0))) ((zLD B48 3 1 false (.l 0)) ((zPD (vLenS (.l 0))) ((zPD (vNilCheck (.v 0))) ((zPD (vFieldAddr 1 (.l 0))) ((zLD B48 8 1 false (.l 0)) ((zPD (vInt E fSub .sub 3 false false (.l 3) (.l 0))) ((zVD 1 (vMv (.l 0))) k)))))))))
  zRet)), [.tmp (.v 1)]⟩
theorem G191_ok (fn : Nat → Option Func) (pu : Nat → Bool) (pr : Nat → List AV → Option (Heap → Option (Eff × Acc))) : ZOk ⟨Tryz.tyT, fn, pu, pr⟩ npT F191 (G191 ⟨Tryz.tyT, fn, pu, pr⟩) := ⟨by kernel_rfl, by kernel_rfl, by kernel_rfl, fun cy Y k => by kernel_rfl⟩
noncomputable def F192 : FFn := cF LV 0 [0, 1, 2] Tryz.f192
noncomputable def G192 (E : Env) : ZFn := ⟨4, [0, 1, 2], fun cy Y fuel =>
  (zSeq (zReg fun k => (zStep E (cy Y) ⟨.box 9 (.v 0), (.var 1), none, false, 0, (some 0)⟩) ((zV 2 (vMv (.k .nilFunc))) k))
  (zSeq (zReg fun k => (zStep E (cy Y) ⟨.mkFunc 254 [(.v 1)], .push, none, false, 0, none⟩) ((zV 2 (vMv (.l 0))) k))
  zRet)), [.tmp (.v 2)]⟩
theorem G192_ok (fn : Nat → Option Func) (pu : Nat → Bool) (pr : Nat → List AV → Option (Heap → Option (Eff × Acc))) : ZOk ⟨Tryz.tyT, fn, pu, pr⟩ npT F192 (G192 ⟨Tryz.tyT, fn, pu, pr⟩) := ⟨by kernel_rfl, by kernel_rfl, by kernel_rfl, fun cy Y k => by kernel_rfl⟩
noncomputable def F194 : FFn := cF LV 0 [0, 2, 1, 4, 7, 8, 5, 6] Tryz.f194
noncomputable def G194 (E : Env) : ZFn := ⟨50, [0, 2, 1, 4, 7, 8, 5, 6], fun cy Y fuel =>
  (zSeq (zReg fun k => (zStep E (cy Y) ⟨.box 81 (.v 0), (.var 1), none, false, 0, (some 0)⟩) ((zStep E (cy Y) ⟨.alloc 38, (.var 3), none, false, 1, (some 1)⟩) ((zV 6 (vMv (.k (.str [])))) ((zV 7 (vMv (.k .nilIface))) k))))
  (zSeq (zSeq (zReg fun k => (zL 2 true (.v 1)) ((zCall (cy Y) 158 [(.l 0)] .push) ((zP (vNot (.l 0))) k)))
  (zCond (.l 0) (zSeq (zReg fun k => (zStep E (cy Y) ⟨.build 38 [], .push, none, false, 0, none⟩) ((zStep E (cy Y) ⟨.mkIface 66 (.k (.int .i64 14)), .push, none, false, 2, none⟩) ((zStep E (cy Y) ⟨.store 38 (.v 3) (.l 1), .none, none, false, 3, none⟩) ((zV 6 (vMv (.v 2))) ((zV 7 (vMv (.l 0))) k)))))
  zRet) zSkip))
  (zSeq (zReg fun k => (zStep E (cy Y) ⟨.build 334 [(0, (.v 2))], .push, none, false, 1, none⟩) ((zStep E (cy Y) ⟨.box 334 (.l 0), .push, none, false, 2, (some 0)⟩) ((zV 4 (vMv (.l 0))) k)))
  (zSeq (zReg fun k => (zL 2 true (.v 1)) ((zCall (cy Y) 257 [(.v 4), (.l 0)] .push) ((zStep E (cy Y) ⟨.alloc 38, (.var 5), none, false, 3, (some 1)⟩) ((zStep E (cy Y) ⟨.store 38 (.v 5) (.l 0), .none, none, false, 4, none⟩) k))))
  (zSeq (zSeq (zReg fun k => (zP (vNilCheck (.v 4))) ((zP (vFieldAddr 1 (.l 0))) ((zL 1 false (.l 0)) ((zP (vInt E fEql .eql 55 false true (.l 0) (.k .nilIface))) ((zG (.l 0) true .push (zL 2 true (.v 1))) ((zG (.l 1) true .push (zL 5 true (.v 5))) ((zG (.l 2) true .push (zStep E (cy Y) ⟨.call 141 [(.l 1), (.l 0)], .push, none, false, 8, (some 0)⟩)) ((zG (.l 3) true .push (zP (vNot (.l 0)))) ((zP (vPick (.l 4) (.l 0) (.k (.bool false)))) k)))))))))
  (zCond (.l 0) (zReg fun k => (zCall (cy Y) 258 [(.v 4), (.k (.int .i64 10))] .push) k) zSkip))
  (zSeq (zSeq (zReg fun k => (zP (vNilCheck (.v 4))) ((zP (vFieldAddr 1 (.l 0))) ((zL 1 false (.l 0)) ((zP (vInt E fNeq .neq 55 false true (.l 0) (.k .nilIface))) k))))
  (zCond (.l 0) (zSeq (zDreg 0 fun n0 k => (zStepD E (cy Y) B49 n0 ⟨.build 38 [], .push, none, false, 0, none⟩) ((zPD (vNilCheck (.v 4))) ((zPD (vFieldAddr 1 (.l 0))) ((zLD B49 5 1 false (.l 0)) ((zStepD E (cy Y) B49 n0 ⟨.store 38 (.v 3) (.l 3), .none, none, false, 6, none⟩) ((zVD 6 (vMv (.v 2))) ((zVD 7 (vMv (.l 0))) k)))))))
  zRet) zSkip))
  (zSeq (zDreg 0 fun n0 k => (zLD B50 0 5 true (.v 5)) ((zPD (vNilCheck (.v 4))) ((zPD (vFieldAddr 0 (.l 0))) ((zLD B50 4 1 false (.l 0)) ((zStepD E (cy Y) B50 n0 ⟨.store 38 (.v 3) (.l 3), .none, none, false, 5, none⟩) ((zVD 6 (vMv (.l 0))) ((zVD 7 (vMv (.k .nilIface))) k)))))))
  zRet))))))), [.cell (.v 3) 38, .tmp (.v 6), .tmp (.v 7)]⟩
theorem G194_ok (fn : Nat → Option Func) (pu : Nat → Bool) (pr : Nat → List AV → Option (Heap → Option (Eff × Acc))) : ZOk ⟨Tryz.tyT, fn, pu, pr⟩ npT F194 (G194 ⟨Tryz.tyT, fn, pu, pr⟩) := ⟨by kernel_rfl, by kernel_rfl, by kernel_rfl, fun cy Y k => by kernel_rfl⟩
noncomputable def F195 : FFn := cF LV 0 [1, 7, 6, 5, 0, 4] Tryz.f195
noncomputable def G195 (E : Env) : ZFn := ⟨16, [1, 7, 6, 5, 0, 4], fun cy Y fuel =>
  (zSeq (zReg fun k => (zDstW (.var 3) (wLoad 1 false (.v 0))) ((zV 2 (vLenL (.v 3))) ((zV 1 (vMv (.k (.int .i64 0)))) k)))
  (zBlock 0 (zLoop fuel (zSeq (zReg fun k => (zP (vInt E fLss .lss 3 false false (.v 1) (.v 2))) k)
  (zSeq (zCond (.l 0) zSkip (zExit 0))
  (zSeq (zBlock 1 (zSeq (zReg fun k => (zP (vIndexAddr 6 (.v 3) (.v 1))) ((zL 6 true (.l 0)) ((zStep E (cy Y) ⟨.alloc 122, (.var 5), none, false, 2, (some 0)⟩) ((zStep E (cy Y) ⟨.store 122 (.v 5) (.l 0), .none, none, false, 3, none⟩) k))))
  (zSeq (zReg fun k => (zL 6 true (.v 5)) ((zStep E (cy Y) ⟨.callv (.v 4) [(.l 0)], .push, none, false, 2, (some 0)⟩) ((zP (vNot (.l 0))) k)))
  (zCond (.l 0) zRet zSkip))))
  (zReg fun k => (zP (vInt E fAdd .add 3 false true (.v 1) (.k (.int .i64 1)))) ((zV 1 (vMv (.l 0))) k)))))))), []⟩
theorem G195_ok (fn : Nat → Option Func) (pu : Nat → Bool) (pr : Nat → List AV → Option (Heap → Option (Eff × Acc))) : ZOk ⟨Tryz.tyT, fn, pu, pr⟩ npT F195 (G195 ⟨Tryz.tyT, fn, pu, pr⟩) := ⟨by kernel_rfl, by kernel_rfl, by kernel_rfl, fun cy Y k => by kernel_rfl⟩
noncomputable def F196 : FFn := cF LV 0 [0, 2] Tryz.f196
noncomputable def G196 (E : Env) : ZFn := ⟨9, [0, 2], fun cy Y fuel =>
  (zSeq (zReg fun k => (zV 1 (vMv (.k (.str [])))) k)
  (zSeq (zReg fun k => (zP (vLenS (.v 0))) ((zP (vConv .u64 (.l 0))) ((zCall (cy Y) 259 [(.l 0)] .push) ((zP (vInt E fAdd .add 9 false false (.l 0) (.v 0))) ((zV 1 (vMv (.l 0))) k)))))
  zRet)), [.tmp (.v 1)]⟩
theorem G196_ok (fn : Nat → Option Func) (pu : Nat → Bool) (pr : Nat → List AV → Option (Heap → Option (Eff × Acc))) : ZOk ⟨Tryz.tyT, fn, pu, pr⟩ npT F196 (G196 ⟨Tryz.tyT, fn, pu, pr⟩) := ⟨by kernel_rfl, by kernel_rfl, by kernel_rfl, fun cy Y k => by kernel_rfl⟩
noncomputable def F197 : FFn := cF LV 0 [0, 1, 2, 3, 5, 4] Tryz.f197
noncomputable def G197 (E : Env) : ZFn := ⟨20, [0, 1, 2, 3, 5, 4], fun cy Y fuel =>
  (zSeq (zReg fun k => (zStep E (cy Y) ⟨.box 81 (.v 0), (.var 2), none, false, 0, (some 0)⟩) ((zStep E (cy Y) ⟨.box 38 (.v 1), (.var 3), none, false, 1, (some 1)⟩) ((zV 5 (vMv (.k (.str [])))) k)))
  (zSeq (zSeq (zReg fun k => (zL 2 true (.v 2)) ((zL 5 true (.v 3)) ((zStep E (cy Y) ⟨.call 141 [(.l 1), (.l 0)], .push, none, false, 2, (some 0)⟩) ((zP (vNot (.l 0))) k))))
  (zCond (.l 0) (zSeq (zReg fun k => (zV 5 (vMv (.k (.str [])))) k)
  zRet) zSkip))
  (zSeq (zReg fun k => (zStep E (cy Y) ⟨.build 342 [], .push, none, false, 0, none⟩) ((zStep E (cy Y) ⟨.box 342 (.l 0), .push, none, false, 1, (some 0)⟩) ((zV 4 (vMv (.l 0))) k)))
  (zSeq (zReg fun k => (zL 2 true (.v 2)) ((zL 5 true (.v 3)) ((zCall (cy Y) 260 [(.v 4), (.l 1), (.l 0)] .push) k)))
  (zSeq (zReg fun k => (zP (vNilCheck (.v 4))) ((zP (vFieldAddr 0 (.l 0))) ((zStep E (cy Y) ⟨.call 261 [(.l 0)], .push, none, false, 3, (some 0)⟩) ((zV 5 (vMv (.l 0))) k))))
  zRet))))), [.tmp (.v 5)]⟩
theorem G197_ok (fn : Nat → Option Func) (pu : Nat → Bool) (pr : Nat → List AV → Option (Heap → Option (Eff × Acc))) : ZOk ⟨Tryz.tyT, fn, pu, pr⟩ npT F197 (G197 ⟨Tryz.tyT, fn, pu, pr⟩) := ⟨by kernel_rfl, by kernel_rfl, by kernel_rfl, fun cy Y k => by kernel_rfl⟩
noncomputable def F198 : FFn := cF LV 0 [0, 3, 9, 4, 2] Tryz.f198
noncomputable def G198 (E : Env) : ZFn := ⟨21, [0, 3, 9, 4, 2], fun cy Y fuel =>
  (zSeq (zReg fun k => (zV 4 (vMv (.k (.str [])))) k)
  (zSeq (zReg fun k => (zCall (cy Y) 196 [(.v 0)] .push) ((zV 1 (vMv (.l 0))) k))
  (zSeq (zReg fun k => (zCall (cy Y) 218 [(.v 1)] .push) ((zV 3 (vMv (.l 0))) k))
  (zSeq (zSeq (zReg fun k => (zV 2 (vMv (.k (.int .i64 0)))) k)
  (zBlock 0 (zLoop fuel (zSeq (zReg fun k => (zP (vInt E fLss .lss 3 false true (.v 2) (.k (.int .i64 8)))) k)
  (zSeq (zCond (.l 0) zSkip (zExit 0))
  (zSeq (zBlock 1 (zSeq (zReg fun k => (zP (vMv (.v 1))) ((zP (vConv .u8 (.v 3))) ((zStep E (cy Y) ⟨.buildSlice 28 1 [(0, (.l 0))], .push, none, false, 3, (some 0)⟩) ((zStep E (cy Y) ⟨.conv 28 9 (.l 0), .push, none, false, 4, none⟩) ((zP (vInt E fAdd .add 9 false false (.l 3) (.l 0))) ((zV 1 (vMv (.l 0))) k))))))
  (zReg fun k => (zP (vMv (.v 3))) ((zP (vBin E .shr 33 false true (.l 0) (.k (.int .u64 8)))) ((zV 3 (vMv (.l 0))) k)))))
  (zReg fun k => (zP (vInt E fAdd .add 3 false true (.v 2) (.k (.int .i64 1)))) ((zV 2 (vMv (.l 0))) k))))))))
  (zSeq (zReg fun k => (zV 4 (vMv (.v 1))) k)
  zRet))))), [.tmp (.v 4)]⟩
theorem G198_ok (fn : Nat → Option Func) (pu : Nat → Bool) (pr : Nat → List AV → Option (Heap → Option (Eff × Acc))) : ZOk ⟨Tryz.tyT, fn, pu, pr⟩ npT F198 (G198 ⟨Tryz.tyT, fn, pu, pr⟩) := ⟨by kernel_rfl, by kernel_rfl, by kernel_rfl, fun cy Y k => by kernel_rfl⟩
noncomputable def F199 : FFn := cF LV 0 [0, 1, 2, 3, 4] Tryz.f199
noncomputable def G199 (E : Env) : ZFn := ⟨17, [0, 1, 2, 3, 4], fun cy Y fuel =>
  (zSeq (zReg fun k => (zStep E (cy Y) ⟨.box 81 (.v 0), (.var 2), none, false, 0, (some 0)⟩) ((zStep E (cy Y) ⟨.box 81 (.v 1), (.var 3), none, false, 1, (some 1)⟩) ((zV 4 (vMv (.k (.bool false)))) k)))
  (zSeq (zReg fun k => (zP (vFieldAddr 0 (.v 2))) ((zL 1 false (.l 0)) ((zP (vFieldAddr 0 (.v 3))) ((zL 1 false (.l 0)) ((zP (vInt E fEql .eql 3 false false (.l 2) (.l 0))) ((zG (.l 0) true .push (zP (vFieldAddr 1 (.v 2)))) ((zG (.l 1) true .push (zL 1 false (.l 0))) ((zG (.l 2) true .push (zP (vFieldAddr 1 (.v 3)))) ((zG (.l 3) true .push (zL 1 false (.l 0))) ((zG (.l 4) true .push (zCall (cy Y) 262 [(.l 2), (.l 0), (.k (.clo 199 []))] .push)) ((zP (vPick (.l 5) (.l 0) (.k (.bool false)))) ((zV 4 (vMv (.l 0))) k))))))))))))
  zRet)), [.tmp (.v 4)]⟩
theorem G199_ok (fn : Nat → Option Func) (pu : Nat → Bool) (pr : Nat → List AV → Option (Heap → Option (Eff × Acc))) : ZOk ⟨Tryz.tyT, fn, pu, pr⟩ npT F199 (G199 ⟨Tryz.tyT, fn, pu, pr⟩) := ⟨by kernel_rfl, by kernel_rfl, by kernel_rfl, fun cy Y k => by kernel_rfl⟩
noncomputable def F200 : FFn := cF LV 0 [0, 3, 1, 2] Tryz.f200
noncomputable def G200 (E : Env) : ZFn := ⟨13, [0, 3, 1, 2], fun cy Y fuel =>
  (zSeq (zReg fun k => (zStep E (cy Y) ⟨.box 81 (.v 0), (.var 2), none, false, 0, (some 0)⟩) ((zStep E (cy Y) ⟨.alloc 81, (.var 3), none, false, 1, (some 1)⟩) k))
  (zSeq (zReg fun k => (zStep E (cy Y) ⟨.build 81 [(0, (.k (.int .i64 7)))], .push, none, false, 0, none⟩) ((zStep E (cy Y) ⟨.buildSlice 79 1 [(0, (.l 0))], .push, none, false, 1, (some 0)⟩) ((zStep E (cy Y) ⟨.build 81 [(0, (.k (.int .i64 4))), (1, (.l 0))], .push, none, false, 2, none⟩) ((zStep E (cy Y) ⟨.alloc 81, (.var 1), none, false, 3, (some 1)⟩) ((zStep E (cy Y) ⟨.store 81 (.v 1) (.l 0), .none, none, false, 4, none⟩) k)))))
  (zSeq (zReg fun k => (zL 2 true (.v 1)) ((zL 2 true (.v 2)) ((zStep E (cy Y) ⟨.buildSlice 79 2 [(0, (.l 1)), (1, (.l 0))], .push, none, false, 2, (some 0)⟩) ((zStep E (cy Y) ⟨.build 81 [(0, (.k (.int .i64 5))), (1, (.l 0))], .push, none, false, 3, none⟩) ((zStep E (cy Y) ⟨.buildSlice 79 1 [(0, (.l 0))], .push, none, false, 4, (some 1)⟩) ((zStep E (cy Y) ⟨.build 81 [(0, (.k (.int .i64 8))), (1, (.l 0))], .push, none, false, 5, none⟩) ((zStep E (cy Y) ⟨.store 81 (.v 3) (.l 0), .none, none, false, 6, none⟩) k)))))))
  zRet))), [.cell (.v 3) 81]⟩
theorem G200_ok (fn : Nat → Option Func) (pu : Nat → Bool) (pr : Nat → List AV → Option (Heap → Option (Eff × Acc))) : ZOk ⟨Tryz.tyT, fn, pu, pr⟩ npT F200 (G200 ⟨Tryz.tyT, fn, pu, pr⟩) := ⟨by kernel_rfl, by kernel_rfl, by kernel_rfl, fun cy Y k => by kernel_rfl⟩
end Go.Proofs.PxDh
