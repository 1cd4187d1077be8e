/- The functions of the seat, in one breath: part 0. -/
import Derived.Test.YtdkgahnccefagaaGreatDoorPb3
import Derived.Test.YtdkgahnccefagaaGreatDoorProg
import Derived.Test.YtdkgahnccefagaaGreatDoorPxEnvDt
import Derived.KernelRfl
set_option maxRecDepth 100000
set_option linter.unusedVariables false
set_option linter.unusedSimpArgs false
namespace Go.Proofs.PxDt
open Go Go.Px Go.Proofs
def B0 : List Nat := [0, 0, 2, 6, 14, 0, 32, 96, 224, 510, 0, 1024, 4095, 8191]
def B1 : List Nat := [0, 1, 0, 4, 12, 28, 63, 127, 255, 511, 1023, 2047, 255, 8191, 16383, 32767]
def B2 : List Nat := [0, 0, 2, 6, 14, 0, 32, 126, 255, 511, 1023]
def B3 : List Nat := [0, 1, 3, 0, 8, 24, 56, 127, 255]
def B4 : List Nat := [0, 1, 3, 7, 15, 31, 63, 127, 255, 511, 1023, 2047, 4095, 63, 16383, 32767, 65535, 131071, 262143, 524287, 1048575, 2097151, 4194303, 8388607, 131071, 16908287, 67108863, 134217727]
def B5 : List Nat := [0, 1, 3, 7, 0, 16, 0, 64, 192, 448, 960, 1984, 4032, 8191, 16383, 32767]
def B6 : List Nat := [0, 1, 3, 7, 0, 16, 48, 112, 240, 496, 1023, 2047, 4095, 8191, 16383, 32767]
def B7 : List Nat := [0, 1, 0, 4, 15, 0, 0, 64, 192, 480, 1023, 2047]
def B8 : List Nat := [0, 1, 3, 7, 0, 16, 48, 112, 240, 496, 1008, 2047, 4095]
def B9 : List Nat := [0, 1, 3, 7, 15, 31, 63, 0, 128, 384, 896, 0, 0, 0, 8192, 28672, 63488, 129024, 0, 262144, 786432, 1835008, 3932160, 8126464, 16515072, 0, 33554432, 100663296, 234881024, 503316480, 1040187392, 2113929216, 0, 4294967296, 12884901888, 30064771072, 64424509440, 133143986176, 270582939648, 549755813887, 1099511627775, 2199023255551]
def B10 : List Nat := [0, 1, 3, 7, 0, 16, 48, 112, 240, 496, 1023, 2047]
def B11 : List Nat := [0, 0, 0, 0, 0, 0, 9, 73, 201, 475, 987, 2011, 4095, 8191, 16383]
def B12 : List Nat := [0, 1, 3, 7, 0, 16, 48, 112, 240, 0, 1023]
def B13 : List Nat := [0, 1, 3, 7, 0, 16, 0, 64, 255, 511]
def B14 : List Nat := [0, 0, 0, 4, 0, 31]
def B15 : List Nat := [0, 1, 3, 7, 0, 16, 48, 112, 240, 496, 1023, 2047, 4095, 8191, 16383]
def B16 : List Nat := [0, 1, 0, 4, 12, 28, 0, 124, 252, 511, 1023, 2047, 2047, 0, 12287, 32767]
def B17 : List Nat := [0, 0, 2, 6, 14, 30, 0, 64, 0, 256, 960, 1984, 4094, 8191, 16383, 32767, 65535]
def B18 : List Nat := [0, 1, 3, 7, 0, 16, 63, 127, 255, 255, 0, 1535, 4095]
def B19 : List Nat := [0, 1, 3, 7, 0, 16, 48, 112, 240, 496, 0, 0, 4095, 0, 16383]
def B20 : List Nat := [0, 1, 3, 7, 15, 31, 63, 127, 255, 511, 1023, 2047, 4095, 8191, 16383, 32767, 65535, 131071, 262143, 131071, 655359, 2097151, 4194303, 131071, 16777215, 33554431, 67108863, 134217727]
def B21 : List Nat := [0, 0, 0, 0, 0, 24, 56, 0, 252, 511, 1023]
def B22 : List Nat := [0, 1, 0, 0, 0, 27, 63, 127]
def B23 : List Nat := [0, 1, 3, 7, 0, 0, 63, 127, 255, 255, 511, 2047]
def B24 : List Nat := [0, 0, 0, 4, 12, 28, 0, 0, 254, 510, 1023, 2047, 4095]
def B25 : List Nat := [0, 0, 2, 6, 14, 30, 62, 126, 254, 255, 1023]
def B26 : List Nat := [0, 1, 3, 7, 0, 31, 0, 64, 192, 448, 0, 1024, 3072, 7168, 16383, 32767, 65535, 65535, 131071, 524287]
def B27 : List Nat := [0, 1, 3, 0, 8, 24, 56, 0, 255, 0, 512, 1536, 3584, 0, 8192, 24576, 57344, 0, 254463, 0, 1048575, 2097151, 4194303, 4194303, 8388607, 33554431]
def B28 : List Nat := [0, 1, 3, 7, 0, 0, 63, 127]
def B29 : List Nat := [0, 0, 2, 6, 14, 0, 0, 96, 224, 510, 1023, 2047, 4095]
def B30 : List Nat := [0, 1, 3, 0, 15, 31]
def B31 : List Nat := [0, 1, 3, 7, 15, 31, 63, 127, 255, 511, 1023, 2047, 4095, 4095, 12287, 28671, 61439, 126975, 258047, 520191, 1044479, 2097151, 4194303, 8388607]
def B32 : List Nat := [0, 1, 0, 4, 15, 31]
def B33 : List Nat := [0, 1, 0, 7, 15]
def B34 : List Nat := [0, 1, 3, 7, 15, 0, 32, 96, 224, 511, 1023, 2047, 4095]
def B35 : List Nat := [0, 0, 0, 6, 14, 0, 63, 127]
def B36 : List Nat := [0, 0, 0, 6, 14, 30, 30, 30, 222, 478, 30, 2046, 4094, 8190, 4095, 32767]
def B37 : List Nat := [0, 1, 3, 0, 0, 31]
def B38 : List Nat := [0, 0, 3, 7, 0, 0, 48, 112, 255]
def B39 : List Nat := [0, 0, 2, 7, 0, 16, 63, 127]
def B40 : List Nat := [0, 1, 3, 7, 15, 31, 63, 127, 255, 31, 543, 1567, 3615, 8191, 16383, 32767, 65535, 131071, 262143, 524287, 65535, 1114111, 3211263, 7405567, 16777215, 33554431, 67108863]
def B41 : List Nat := [0, 1, 3, 7, 15, 31, 7, 71, 199, 511, 1023]
def B42 : List Nat := [0, 1, 3, 7, 0, 0, 63]
def B43 : List Nat := [0, 1, 3, 7, 7, 23, 63, 127, 7, 7, 775, 1799, 4095, 8191, 16383]
def B44 : List Nat := [0, 1, 3, 0, 8, 31]
def B45 : List Nat := [0, 0, 2, 6, 14, 0, 32, 0, 224, 480, 1023]
def B46 : List Nat := [0, 0, 2, 6, 14, 0, 32, 96, 224, 511]
def B47 : List Nat := [0, 0, 0, 6, 14, 0, 0, 96, 224, 511, 1023]
def B48 : List Nat := [0, 0, 0, 4, 14, 30, 0, 0, 192, 448, 1023, 2047]
def B49 : List Nat := [0, 0, 0, 6, 0, 30, 62, 127, 255]
def B50 : List Nat := [0, 0, 3, 7, 15, 15, 63, 127, 15, 15, 527, 1807, 3855, 8191, 16383]
def B51 : List Nat := [0, 0, 0, 0, 8, 0, 0, 64, 224, 480, 0, 0, 3072, 7168, 16355, 32739, 65535, 131071]
def B52 : List Nat := [0, 1, 0, 7, 0, 16, 0, 112, 255, 0, 512, 0, 2048, 8191, 16383, 32767, 65535]
def B53 : List Nat := [0, 1, 3, 7, 7, 7, 39, 119, 247, 7, 7, 1543, 3591, 8191, 16383, 32767, 65535]
def B54 : List Nat := [0, 0, 3, 7, 15, 15, 15, 111, 239, 15, 15, 1039, 3599, 7695, 16383, 32767, 65535]
def LVL : List (Nat × List Nat) := [(0, [52, 3, 9, 6]), (1, [14, 5, 8, 3, 9, 11, 7, 6]), (2, [40, 2, 9, 6, 7]), (3, [19, 2, 6, 7, 9, 4, 5, 8]), (4, [7, 8, 3, 4, 2]), (5, [14, 5, 8, 3, 9, 11, 7, 6]), (6, [12, 5, 6]), (7, [7, 3, 4, 2])]
def LV (id : Nat) : List Nat := (lookT LVL id).getD []
def toldT : List Nat := [15, 23, 32, 58, 59, 68, 69, 75, 77, 95, 104, 133, 136, 138, 139, 141, 150, 165, 261, 268, 310, 374, 391]
def npT (f : Nat) : Bool := !(toldT.any fun g => Nat.beq g f)
noncomputable def L0 : LFn := ⟨80, [52, 3, 9, 6], [(some 0)], cC LV [52, 3, 9, 6] 80 (codeAt [1, 1, 1, 0, 1, 0, 0] (bodyOf Tryz.f52)) 0, cC LV [52, 3, 9, 6] 80 (codeAt [1, 1, 1, 0, 1, 0, 1] (bodyOf Tryz.f52)) 0⟩
noncomputable def M0 (E : Env) : ZLn := ⟨80, [52, 3, 9, 6], [(some 0)], fun cy Y fuel =>
  (zReg fun k => (zV 2 (vMv (.v 0))) k), fun cy Y fuel =>
  (zBlock 1 (zSeq (zReg fun k => (zL 1 false (.v 1)) ((zStep E (cy Y) ⟨.build 38 [], .push, none, false, 2, none⟩) ((zCall (cy Y) 109 [(.l 1), (.k (.int .i64 3)), (.v 2), (.l 0)] .push) ((zStep E (cy Y) ⟨.store 44 (.v 3) (.l 0), .none, none, false, 4, none⟩) k))))
  zRet))⟩
theorem M0_ok (fn : Nat → Option Func) (pu : Nat → Bool) (pr : Nat → List AV → Option (Heap → Option (Eff × Acc))) : ZLOk ⟨Tryz.tyT, fn, pu, pr⟩ npT L0 (M0 ⟨Tryz.tyT, fn, pu, pr⟩) := ⟨rfl, fun cy Y k => by kernel_rfl, fun cy Y k => by kernel_rfl⟩
noncomputable def L1 : LFn := ⟨35, [14, 5, 8, 3, 9, 11, 7, 6], [(some 0)], cC LV [14, 5, 8, 3, 9, 11, 7, 6] 35 (codeAt [1, 1, 0, 1, 0, 0] (bodyOf Tryz.f82)) 0, cC LV [14, 5, 8, 3, 9, 11, 7, 6] 35 (codeAt [1, 1, 0, 1, 0, 1] (bodyOf Tryz.f82)) 0⟩
noncomputable def M1 (E : Env) : ZLn := ⟨35, [14, 5, 8, 3, 9, 11, 7, 6], [(some 0)], fun cy Y fuel =>
  (zReg fun k => (zStep E (cy Y) ⟨.alloc 153, (.var 2), none, false, 0, (some 0)⟩) ((zStep E (cy Y) ⟨.store 153 (.v 2) (.v 0), .none, none, false, 1, none⟩) k)), fun cy Y fuel =>
  (zBlock 1 (zSeq (zReg fun k => (zL 1 false (.v 1)) ((zL 2 true (.v 2)) ((zStep E (cy Y) ⟨.callv (.l 1) [(.l 0)], .push, none, false, 2, (some 0)⟩) ((zV 4 (vMv (.l 0))) k))))
  (zSeq (zSeq (zReg fun k => (zL 1 false (.v 3)) ((zCall (cy Y) 78 [(.l 0), (.v 4)] .push) ((zP (vExtract 0 (.l 0))) ((zP (vExtract 1 (.l 1))) ((zStep E (cy Y) ⟨.alloc 83, .push, none, false, 6, (some 1)⟩) ((zStep E (cy Y) ⟨.store 83 (.l 0) (.l 2), .none, none, false, 7, none⟩) ((zV 5 (vMv (.l 1))) k)))))))
  (zSeq (zReg fun k => (zP (vNot (.v 5))) ((zG (.l 0) false .push (zP (vMv (.v 4)))) ((zG (.l 1) false .push (zL 1 false (.v 6))) ((zG (.l 2) false .push (zP (vInt E (fGen .leq) .leq 9 false false (.l 1) (.l 0)))) ((zP (vPick (.l 3) (.k (.bool true)) (.l 0))) k)))))
  (zCond (.l 0) (zSeq (zReg fun k => (zStep E (cy Y) ⟨.store 4 (.v 7) (.k (.bool false)), .none, none, false, 0, none⟩) k)
  zRet) zSkip)))
  (zReg fun k => (zStep E (cy Y) ⟨.store 9 (.v 6) (.v 4), .none, none, false, 1, none⟩) k))))⟩
theorem M1_ok (fn : Nat → Option Func) (pu : Nat → Bool) (pr : Nat → List AV → Option (Heap → Option (Eff × Acc))) : ZLOk ⟨Tryz.tyT, fn, pu, pr⟩ npT L1 (M1 ⟨Tryz.tyT, fn, pu, pr⟩) := ⟨rfl, fun cy Y k => by kernel_rfl, fun cy Y k => by kernel_rfl⟩
noncomputable def L2 : LFn := ⟨71, [40, 2, 9, 6, 7], [(some 0)], cC LV [40, 2, 9, 6, 7] 71 (codeAt [1, 1, 1, 0, 0, 0, 1, 0, 1, 1, 1, 1, 1, 0, 0] (bodyOf Tryz.f108)) 0, cC LV [40, 2, 9, 6, 7] 71 (codeAt [1, 1, 1, 0, 0, 0, 1, 0, 1, 1, 1, 1, 1, 0, 1] (bodyOf Tryz.f108)) 0⟩
noncomputable def M2 (E : Env) : ZLn := ⟨71, [40, 2, 9, 6, 7], [(some 0)], fun cy Y fuel =>
  (zReg fun k => (zStep E (cy Y) ⟨.alloc 122, (.var 2), none, false, 0, (some 0)⟩) ((zStep E (cy Y) ⟨.store 122 (.v 2) (.v 0), .none, none, false, 1, none⟩) k)), fun cy Y fuel =>
  (zBlock 3 (zSeq (zSeq (zReg fun k => (zL 1 false (.v 1)) ((zP (vFieldAddr 0 (.v 2))) ((zL 1 false (.l 0)) ((zCall (cy Y) 170 [(.l 2), (.l 0)] .push) ((zG (.l 0) true .push (zL 1 false (.v 1))) ((zG (.l 1) true .push (zL 6 true (.v 2))) ((zG (.l 2) true .push (zCall (cy Y) 172 [(.l 1), (.l 0)] .push)) ((zP (vPick (.l 3) (.l 0) (.k (.bool false)))) k))))))))
  (zCond (.l 0) (zReg fun k => (zL 1 false (.v 3)) ((zP (vFieldAddr 0 (.v 2))) ((zL 1 false (.l 0)) ((zStep E (cy Y) ⟨.mapUp 249 (.l 2) (.l 0) (.k (.bool true)), .none, none, false, 3, none⟩) k)))) zSkip))
  (zReg fun k => (zL 1 false (.v 4)) ((zP (vFieldAddr 0 (.v 2))) ((zL 1 false (.l 0)) ((zStep E (cy Y) ⟨.buildSlice 34 1 [(0, (.l 0))], .push, none, false, 3, (some 0)⟩) ((zStep E (cy Y) ⟨.append 34 34 (.l 3) (.l 0), .push, none, false, 4, (some 1)⟩) ((zStep E (cy Y) ⟨.store 34 (.v 4) (.l 0), .none, none, false, 5, none⟩) k))))))))⟩
theorem M2_ok (fn : Nat → Option Func) (pu : Nat → Bool) (pr : Nat → List AV → Option (Heap → Option (Eff × Acc))) : ZLOk ⟨Tryz.tyT, fn, pu, pr⟩ npT L2 (M2 ⟨Tryz.tyT, fn, pu, pr⟩) := ⟨rfl, fun cy Y k => by kernel_rfl, fun cy Y k => by kernel_rfl⟩
noncomputable def L3 : LFn := ⟨33, [19, 2, 6, 7, 9, 4, 5, 8], [(some 0)], cC LV [19, 2, 6, 7, 9, 4, 5, 8] 33 (codeAt [1, 1, 1, 0, 1, 0, 0] (bodyOf Tryz.f111)) 0, cC LV [19, 2, 6, 7, 9, 4, 5, 8] 33 (codeAt [1, 1, 1, 0, 1, 0, 1] (bodyOf Tryz.f111)) 0⟩
noncomputable def M3 (E : Env) : ZLn := ⟨33, [19, 2, 6, 7, 9, 4, 5, 8], [(some 0)], fun cy Y fuel =>
  (zReg fun k => (zStep E (cy Y) ⟨.alloc 38, (.var 3), none, false, 0, (some 0)⟩) ((zStep E (cy Y) ⟨.store 38 (.v 3) (.v 0), .none, none, false, 1, none⟩) k)), fun cy Y fuel =>
  (zBlock 1 (zSeq (zReg fun k => (zL 2 true (.v 1)) ((zL 5 true (.v 2)) ((zL 5 true (.v 3)) ((zStep E (cy Y) ⟨.call 150 [(.l 2), (.l 1), (.l 0)], .push, none, false, 3, (some 0)⟩) ((zP (vExtract 0 (.l 0))) ((zP (vExtract 1 (.l 1))) ((zStep E (cy Y) ⟨.alloc 38, (.var 7), none, false, 7, (some 1)⟩) ((zStep E (cy Y) ⟨.store 38 (.v 7) (.l 1), .none, none, false, 8, none⟩) ((zV 4 (vMv (.l 0))) k)))))))))
  (zSeq (zSeq (zReg fun k => (zP (vInt E fNeq .neq 55 false true (.v 4) (.k .nilIface))) k)
  (zCond (.l 0) (zSeq (zReg fun k => (zStep E (cy Y) ⟨.build 38 [], .push, none, false, 0, none⟩) ((zStep E (cy Y) ⟨.store 38 (.v 5) (.l 0), .none, none, false, 2, none⟩) ((zStep E (cy Y) ⟨.store 55 (.v 6) (.v 4), .none, none, false, 3, none⟩) k)))
  zRet) zSkip))
  (zReg fun k => (zL 5 true (.v 7)) ((zStep E (cy Y) ⟨.store 38 (.v 2) (.l 0), .none, none, false, 1, none⟩) k)))))⟩
theorem M3_ok (fn : Nat → Option Func) (pu : Nat → Bool) (pr : Nat → List AV → Option (Heap → Option (Eff × Acc))) : ZLOk ⟨Tryz.tyT, fn, pu, pr⟩ npT L3 (M3 ⟨Tryz.tyT, fn, pu, pr⟩) := ⟨rfl, fun cy Y k => by kernel_rfl, fun cy Y k => by kernel_rfl⟩
noncomputable def L4 : LFn := ⟨12, [7, 8, 3, 4, 2], [(some 0), (some 1)], cC LV [7, 8, 3, 4, 2] 12 (codeAt [1, 0, 1, 0, 0] (bodyOf Tryz.f142)) 0, cC LV [7, 8, 3, 4, 2] 12 (codeAt [1, 0, 1, 0, 1] (bodyOf Tryz.f142)) 0⟩
noncomputable def M4 (E : Env) : ZLn := ⟨12, [7, 8, 3, 4, 2], [(some 0), (some 1)], fun cy Y fuel =>
  (zSeq (zReg fun k => (zV 2 (vMv (.v 0))) k)
  (zReg fun k => (zV 3 (vMv (.v 1))) k)), fun cy Y fuel =>
  (zBlock 1 (zSeq (zReg fun k => (zP (vInt E (fGen .geq) .geq 9 false false (.v 2) (.v 3))) k)
  (zCond (.l 0) (zSeq (zReg fun k => (zStep E (cy Y) ⟨.store 4 (.v 4) (.k (.bool false)), .none, none, false, 0, none⟩) k)
  zRet) zSkip)))⟩
theorem M4_ok (fn : Nat → Option Func) (pu : Nat → Bool) (pr : Nat → List AV → Option (Heap → Option (Eff × Acc))) : ZLOk ⟨Tryz.tyT, fn, pu, pr⟩ npT L4 (M4 ⟨Tryz.tyT, fn, pu, pr⟩) := ⟨rfl, fun cy Y k => by kernel_rfl, fun cy Y k => by kernel_rfl⟩
noncomputable def L5 : LFn := ⟨35, [14, 5, 8, 3, 9, 11, 7, 6], [(some 0)], cC LV [14, 5, 8, 3, 9, 11, 7, 6] 35 (codeAt [1, 1, 0, 1, 0, 0] (bodyOf Tryz.f144)) 0, cC LV [14, 5, 8, 3, 9, 11, 7, 6] 35 (codeAt [1, 1, 0, 1, 0, 1] (bodyOf Tryz.f144)) 0⟩
noncomputable def M5 (E : Env) : ZLn := ⟨35, [14, 5, 8, 3, 9, 11, 7, 6], [(some 0)], fun cy Y fuel =>
  (zReg fun k => (zStep E (cy Y) ⟨.alloc 122, (.var 2), none, false, 0, (some 0)⟩) ((zStep E (cy Y) ⟨.store 122 (.v 2) (.v 0), .none, none, false, 1, none⟩) k)), fun cy Y fuel =>
  (zBlock 1 (zSeq (zReg fun k => (zL 1 false (.v 1)) ((zL 6 true (.v 2)) ((zStep E (cy Y) ⟨.callv (.l 1) [(.l 0)], .push, none, false, 2, (some 0)⟩) ((zV 4 (vMv (.l 0))) k))))
  (zSeq (zSeq (zReg fun k => (zL 1 false (.v 3)) ((zCall (cy Y) 78 [(.l 0), (.v 4)] .push) ((zP (vExtract 0 (.l 0))) ((zP (vExtract 1 (.l 1))) ((zStep E (cy Y) ⟨.alloc 83, .push, none, false, 6, (some 1)⟩) ((zStep E (cy Y) ⟨.store 83 (.l 0) (.l 2), .none, none, false, 7, none⟩) ((zV 5 (vMv (.l 1))) k)))))))
  (zSeq (zReg fun k => (zP (vNot (.v 5))) ((zG (.l 0) false .push (zP (vMv (.v 4)))) ((zG (.l 1) false .push (zL 1 false (.v 6))) ((zG (.l 2) false .push (zP (vInt E (fGen .leq) .leq 9 false false (.l 1) (.l 0)))) ((zP (vPick (.l 3) (.k (.bool true)) (.l 0))) k)))))
  (zCond (.l 0) (zSeq (zReg fun k => (zStep E (cy Y) ⟨.store 4 (.v 7) (.k (.bool false)), .none, none, false, 0, none⟩) k)
  zRet) zSkip)))
  (zReg fun k => (zStep E (cy Y) ⟨.store 9 (.v 6) (.v 4), .none, none, false, 1, none⟩) k))))⟩
theorem M5_ok (fn : Nat → Option Func) (pu : Nat → Bool) (pr : Nat → List AV → Option (Heap → Option (Eff × Acc))) : ZLOk ⟨Tryz.tyT, fn, pu, pr⟩ npT L5 (M5 ⟨Tryz.tyT, fn, pu, pr⟩) := ⟨rfl, fun cy Y k => by kernel_rfl, fun cy Y k => by kernel_rfl⟩
noncomputable def L6 : LFn := ⟨18, [12, 5, 6], [(some 0)], cC LV [12, 5, 6] 18 (codeAt [1, 1, 0, 1, 0, 0] (bodyOf Tryz.f230)) 0, cC LV [12, 5, 6] 18 (codeAt [1, 1, 0, 1, 0, 1] (bodyOf Tryz.f230)) 0⟩
noncomputable def M6 (E : Env) : ZLn := ⟨18, [12, 5, 6], [(some 0)], fun cy Y fuel =>
  (zReg fun k => (zV 2 (vMv (.v 0))) k), fun cy Y fuel =>
  (zBlock 1 (zReg fun k => (zL 1 false (.v 1)) ((zStep E (cy Y) ⟨.buildSlice 98 1 [(0, (.v 2))], .push, none, false, 2, (some 0)⟩) ((zStep E (cy Y) ⟨.append 98 98 (.l 1) (.l 0), .push, none, false, 3, (some 1)⟩) ((zStep E (cy Y) ⟨.store 98 (.v 1) (.l 0), .none, none, false, 4, none⟩) k)))))⟩
theorem M6_ok (fn : Nat → Option Func) (pu : Nat → Bool) (pr : Nat → List AV → Option (Heap → Option (Eff × Acc))) : ZLOk ⟨Tryz.tyT, fn, pu, pr⟩ npT L6 (M6 ⟨Tryz.tyT, fn, pu, pr⟩) := ⟨rfl, fun cy Y k => by kernel_rfl, fun cy Y k => by kernel_rfl⟩
noncomputable def L7 : LFn := ⟨20, [7, 3, 4, 2], [(some 0)], cC LV [7, 3, 4, 2] 20 (codeAt [1, 1, 1, 0, 0] (bodyOf Tryz.f373)) 0, cC LV [7, 3, 4, 2] 20 (codeAt [1, 1, 1, 0, 1] (bodyOf Tryz.f373)) 0⟩
noncomputable def M7 (E : Env) : ZLn := ⟨20, [7, 3, 4, 2], [(some 0)], fun cy Y fuel =>
  (zReg fun k => (zV 2 (vMv (.v 0))) k), fun cy Y fuel =>
  (zBlock 1 (zSeq (zSeq (zReg fun k => (zL 1 false (.v 1)) ((zStep E (cy Y) ⟨.lookup 435 (.l 0) (.v 2) false, .push, none, false, 2, none⟩) ((zP (vNot (.l 0))) ((zG (.l 0) true .push (zL 1 false (.v 3))) ((zG (.l 1) true .push (zP (vMv (.v 2)))) ((zG (.l 2) true .push (zStep E (cy Y) ⟨.callv (.l 1) [(.l 0)], .push, none, false, 7, (some 0)⟩)) ((zG (.l 3) true .push (zP (vNot (.l 0)))) ((zP (vPick (.l 4) (.l 0) (.k (.bool false)))) k))))))))
  (zCond (.l 0) zRet zSkip))
  (zReg fun k => (zL 1 false (.v 1)) ((zStep E (cy Y) ⟨.mapUp 435 (.l 0) (.v 2) (.k (.bool true)), .none, none, false, 2, none⟩) k))))⟩
theorem M7_ok (fn : Nat → Option Func) (pu : Nat → Bool) (pr : Nat → List AV → Option (Heap → Option (Eff × Acc))) : ZLOk ⟨Tryz.tyT, fn, pu, pr⟩ npT L7 (M7 ⟨Tryz.tyT, fn, pu, pr⟩) := ⟨rfl, fun cy Y k => by kernel_rfl, fun cy Y k => by kernel_rfl⟩
noncomputable def F4 : FFn := cF LV 0 [5, 0, 8, 7, 10, 9, 11, 6, 13, 12, 15, 14, 16, 1, 18, 17, 20, 23, 22, 21, 4] Tryz.f4
noncomputable def G4 (E : Env) : ZFn := ⟨284, [5, 0, 8, 7, 10, 9, 11, 6, 13, 12, 15, 14, 16, 1, 18, 17, 20, 23, 22, 21, 4], fun cy Y fuel =>
  (zSeq (zReg fun k => (zV 20 (vMv (.k (.bool false)))) k)
  (zSeq (zSeq (zReg fun k => (zStep E (cy Y) ⟨.call 15 [], .push, none, false, 0, (some 0)⟩) ((zP (vNot (.l 0))) k))
  (zCond (.l 0) (zSeq (zReg fun k => (zV 20 (vMv (.k (.bool false)))) k)
  zRet) zSkip))
  (zSeq (zReg fun k => (zCall (cy Y) 17 [] .push) ((zCall (cy Y) 16 [(.k (.int .i64 100)), (.l 0)] .push) ((zV 0 (vMv (.l 0))) k)))
  (zSeq (zReg fun k => (zCall (cy Y) 7 [(.k (.int .i64 1))] .push) ((zStep E (cy Y) ⟨.build 42 [(0, (.k (.int .i64 9))), (2, (.k (.int .i64 100))), (9, (.l 0))], .push, none, false, 2, none⟩) ((zCall (cy Y) 18 [(.v 0), (.l 0), (.k (.int .i64 1))] .push) k)))
  (zSeq (zReg fun k => (zP (vInt E (fGen .rem) .rem 5 false true (.v 1) (.k (.int .u8 5)))) ((zP (vConv .i64 (.l 0))) ((zP (vInt E fAdd .add 3 false true (.l 0) (.k (.int .i64 1)))) ((zV 7 (vMv (.l 0))) k))))
  (zSeq (zSeq (zReg fun k => (zStep E (cy Y) ⟨.build 59 [(0, (.k (.int .i64 3)))], .push, none, false, 1, none⟩) ((zCall (cy Y) 19 [(.v 0), (.l 0), (.k (.int .i64 2))] .push) ((zP (vExtract 0 (.l 0))) ((zP (vExtract 1 (.l 1))) ((zV 3 (vMv (.l 1))) ((zV 2 (vMv (.l 0))) k))))))
  (zSeq (zReg fun k => (zP (vInt E fNeq .neq 55 false true (.v 2) (.k .nilIface))) ((zG (.l 0) false .push (zP (vMv (.v 3)))) ((zG (.l 1) false .push (zP (vLenL (.l 0)))) ((zG (.l 2) false .push (zP (vInt E fNeq .neq 3 false true (.l 0) (.k (.int .i64 0))))) ((zP (vPick (.l 3) (.k (.bool true)) (.l 0))) k)))))
  (zCond (.l 0) (zSeq (zReg fun k => (zV 20 (vMv (.k (.bool false)))) k)
  zRet) zSkip)))
  (zSeq (zReg fun k => (zStep E (cy Y) ⟨.build 59 [(0, (.k (.int .i64 2))), (1, (.k (.str [109, 57])))], .push, none, false, 1, none⟩) ((zCall (cy Y) 19 [(.v 0), (.l 0), (.k (.int .i64 3))] .push) ((zP (vExtract 0 (.l 0))) ((zP (vExtract 1 (.l 1))) ((zV 5 (vMv (.l 1))) ((zV 4 (vMv (.l 0))) k))))))
  (zSeq (zSeq (zReg fun k => (zP (vInt E fNeq .neq 55 false true (.v 4) (.k .nilIface))) ((zG (.l 0) false .push (zP (vMv (.v 5)))) ((zG (.l 1) false .push (zP (vLenL (.l 0)))) ((zG (.l 2) false .push (zP (vInt E fNeq .neq 3 false true (.l 0) (.k (.int .i64 1))))) ((zP (vPick (.l 3) (.k (.bool true)) (.l 0))) k)))))
  (zCond (.l 0) (zSeq (zReg fun k => (zV 20 (vMv (.k (.bool false)))) k)
  zRet) zSkip))
  (zSeq (zReg fun k => (zP (vIndexAddr 15 (.v 5) (.k (.int .i64 0)))) ((zP (vFieldAddr 3 (.l 0))) ((zL 1 false (.l 0)) ((zStep E (cy Y) ⟨.build 38 [(0, (.k (.int .u64 4)))], .push, none, false, 5, none⟩) ((zStep E (cy Y) ⟨.build 42 [(0, (.k (.int .i64 4))), (2, (.k (.int .i64 100))), (3, (.l 1)), (5, (.k (.str [109, 57]))), (6, (.l 0))], .push, none, false, 6, none⟩) ((zCall (cy Y) 18 [(.v 0), (.l 0), (.k (.int .i64 4))] .push) k))))))
  (zSeq (zSeq (zReg fun k => (zV 6 (vMv (.k (.int .i64 0)))) k)
  (zBlock 0 (zLoop fuel (zSeq (zSeq (zReg fun k => (zP (vInt E fLss .lss 3 false false (.v 6) (.v 7))) k)
  (zCond (.l 0) zSkip (zExit 0)))
  (zSeq (zBlock 1 (zSeq (zReg fun k => (zP (vInt E fAdd .add 3 true false (.k (.int .i64 97)) (.v 6))) ((zP (vConv .u8 (.l 0))) ((zStep E (cy Y) ⟨.buildSlice 28 1 [(0, (.l 0))], .push, none, false, 4, (some 0)⟩) ((zStep E (cy Y) ⟨.conv 28 9 (.l 0), .push, none, false, 5, none⟩) ((zP (vInt E fAdd .add 9 true false (.k (.str [109])) (.l 0))) ((zP (vConv .u64 (.v 6))) ((zP (vInt E fAdd .add 33 false true (.l 0) (.k (.int .u64 1)))) ((zStep E (cy Y) ⟨.build 38 [(0, (.l 0))], .push, none, false, 10, none⟩) ((zStep E (cy Y) ⟨.build 59 [(0, (.k (.int .i64 1))), (1, (.l 3)), (2, (.l 0))], .push, none, false, 11, none⟩) ((zP (vInt E fAdd .add 3 true false (.k (.int .i64 5)) (.v 6))) ((zCall (cy Y) 19 [(.v 0), (.l 1), (.l 0)] .push) ((zP (vExtract 0 (.l 0))) ((zP (vExtract 1 (.l 1))) ((zV 9 (vMv (.l 1))) ((zV 8 (vMv (.l 0))) k)))))))))))))))
  (zSeq (zReg fun k => (zP (vInt E fNeq .neq 55 false true (.v 8) (.k .nilIface))) ((zG (.l 0) false .push (zP (vMv (.v 9)))) ((zG (.l 1) false .push (zP (vLenL (.l 0)))) ((zG (.l 2) false .push (zP (vInt E fNeq .neq 3 false true (.l 0) (.k (.int .i64 0))))) ((zP (vPick (.l 3) (.k (.bool true)) (.l 0))) ((zG (.l 0) false .push (zP (vMv (.v 0)))) ((zG (.l 1) false .push (zCall (cy Y) 20 [(.l 0)] .push)) ((zP (vPick (.l 2) (.k (.bool true)) (.l 0))) k))))))))
  (zCond (.l 0) (zSeq (zReg fun k => (zV 20 (vMv (.k (.bool false)))) k)
  zRet) zSkip))))
  (zReg fun k => (zP (vMv (.v 6))) ((zP (vInt E fAdd .add 3 false true (.l 0) (.k (.int .i64 1)))) ((zV 6 (vMv (.l 0))) k))))))))
  (zSeq (zReg fun k => (zStep E (cy Y) ⟨.build 59 [(0, (.k (.int .i64 2))), (1, (.k (.str [109, 57])))], .push, none, false, 1, none⟩) ((zCall (cy Y) 19 [(.v 0), (.l 0), (.k (.int .i64 20))] .push) ((zP (vExtract 0 (.l 0))) ((zP (vExtract 1 (.l 1))) ((zV 11 (vMv (.l 1))) ((zV 10 (vMv (.l 0))) k))))))
  (zSeq (zReg fun k => (zCall (cy Y) 21 [(.v 0)] .push) ((zV 12 (vMv (.l 0))) k))
  (zSeq (zSeq (zReg fun k => (zP (vInt E fNeq .neq 55 false true (.v 10) (.k .nilIface))) ((zG (.l 0) false .push (zP (vMv (.v 11)))) ((zG (.l 1) false .push (zP (vLenL (.l 0)))) ((zG (.l 2) false .push (zP (vInt E fNeq .neq 3 false true (.l 0) (.k (.int .i64 0))))) ((zP (vPick (.l 3) (.k (.bool true)) (.l 0))) ((zG (.l 0) false .push (zP (vMv (.v 12)))) ((zG (.l 1) false .push (zP (vLenL (.l 0)))) ((zG (.l 2) false .push (zP (vMv (.v 7)))) ((zG (.l 3) false .push (zP (vInt E fAdd .add 3 false true (.l 0) (.k (.int .i64 3))))) ((zG (.l 4) false .push (zP (vInt E fNeq .neq 3 false false (.l 2) (.l 0)))) ((zP (vPick (.l 5) (.k (.bool true)) (.l 0))) ((zG (.l 0) false .push (zP (vMv (.v 12)))) ((zG (.l 1) false .push (zP (vMv (.v 12)))) ((zG (.l 2) false .push (zP (vLenL (.l 0)))) ((zG (.l 3) false .push (zP (vInt E fSub .sub 3 false true (.l 0) (.k (.int .i64 1))))) ((zG (.l 4) false .push (zP (vIndexAddr 18 (.l 3) (.l 0)))) ((zG (.l 5) false .push (zP (vFieldAddr 12 (.l 0)))) ((zG (.l 6) false .push (zP (vFieldAddr 0 (.l 0)))) ((zG (.l 7) false .push (zL 1 false (.l 0))) ((zG (.l 8) false .push (zP (vInt E fNeq .neq 33 false true (.l 0) (.k (.int .u64 4))))) ((zP (vPick (.l 9) (.k (.bool true)) (.l 0))) ((zG (.l 0) false .push (zP (vMv (.v 12)))) ((zG (.l 1) false .push (zP (vMv (.v 12)))) ((zG (.l 2) false .push (zP (vLenL (.l 0)))) ((zG (.l 3) false .push (zP (vInt E fSub .sub 3 false true (.l 0) (.k (.int .i64 1))))) ((zG (.l 4) false .push (zP (vIndexAddr 18 (.l 3) (.l 0)))) ((zG (.l 5) false .push (zP (vFieldAddr 10 (.l 0)))) ((zG (.l 6) false .push (zL 1 false (.l 0))) ((zG (.l 7) false .push (zP (vInt E fNeq .neq 3 false true (.l 0) (.k (.int .i64 20))))) ((zP (vPick (.l 8) (.k (.bool true)) (.l 0))) ((zG (.l 0) false .push (zP (vMv (.v 0)))) ((zG (.l 1) false .push (zCall (cy Y) 22 [(.l 0)] .push)) ((zG (.l 2) false .push (zP (vLenL (.l 0)))) ((zG (.l 3) false .push (zP (vInt E fNeq .neq 3 false true (.l 0) (.k (.int .i64 0))))) ((zP (vPick (.l 4) (.k (.bool true)) (.l 0))) k)))))))))))))))))))))))))))))))))))
  (zCond (.l 0) (zSeq (zReg fun k => (zV 20 (vMv (.k (.bool false)))) k)
  zRet) zSkip))
  (zSeq (zSeq (zReg fun k => k)
  (zCond (.v 13) (zSeq (zReg fun k => (zStep E (cy Y) ⟨.build 59 [(0, (.k (.int .i64 5)))], .push, none, false, 1, none⟩) ((zCall (cy Y) 19 [(.v 0), (.l 0), (.k (.int .i64 21))] .push) ((zP (vExtract 0 (.l 0))) ((zP (vExtract 1 (.l 1))) ((zV 15 (vMv (.l 1))) ((zV 14 (vMv (.l 0))) k))))))
  (zSeq (zReg fun k => (zStep E (cy Y) ⟨.build 59 [(0, (.k (.int .i64 4)))], .push, none, false, 1, none⟩) ((zCall (cy Y) 19 [(.v 0), (.l 0), (.k (.int .i64 22))] .push) ((zP (vExtract 0 (.l 0))) ((zP (vExtract 1 (.l 1))) ((zP (vMv (.l 1))) ((zV 16 (vMv (.l 1))) k))))))
  (zSeq (zReg fun k => (zP (vInt E fEql .eql 55 false true (.v 14) (.k .nilIface))) ((zG (.l 0) true .push (zP (vMv (.v 15)))) ((zG (.l 1) true .push (zP (vLenL (.l 0)))) ((zG (.l 2) true .push (zP (vInt E fEql .eql 3 false true (.l 0) (.k (.int .i64 0))))) ((zP (vPick (.l 3) (.l 0) (.k (.bool false)))) ((zG (.l 0) true .push (zP (vMv (.v 16)))) ((zG (.l 1) true .push (zStep E (cy Y) ⟨.mkIface 66 (.k (.int .i64 20)), .push, none, false, 9, none⟩)) ((zG (.l 2) true .push (zStep E (cy Y) ⟨.call 23 [(.l 1), (.l 0)], .push, none, false, 10, (some 0)⟩)) ((zP (vPick (.l 3) (.l 0) (.k (.bool false)))) ((zG (.l 0) true .push (zP (vMv (.v 0)))) ((zG (.l 1) true .push (zCall (cy Y) 22 [(.l 0)] .push)) ((zG (.l 2) true .push (zP (vLenL (.l 0)))) ((zG (.l 3) true .push (zP (vInt E fEql .eql 3 false true (.l 0) (.k (.int .i64 0))))) ((zP (vPick (.l 4) (.l 0) (.k (.bool false)))) ((zG (.l 0) true .push (zP (vMv (.v 0)))) ((zG (.l 1) true .push (zCall (cy Y) 20 [(.l 0)] .push)) ((zG (.l 2) true .push (zP (vNot (.l 0)))) ((zP (vPick (.l 3) (.l 0) (.k (.bool false)))) ((zV 20 (vMv (.l 0))) k)))))))))))))))))))
  zRet))) zSkip))
  (zSeq (zReg fun k => (zStep E (cy Y) ⟨.build 59 [(0, (.k (.int .i64 4)))], .push, none, false, 1, none⟩) ((zCall (cy Y) 19 [(.v 0), (.l 0), (.k (.int .i64 21))] .push) ((zP (vExtract 0 (.l 0))) ((zP (vExtract 1 (.l 1))) ((zV 19 (vMv (.l 1))) ((zV 18 (vMv (.l 0))) k))))))
  (zSeq (zSeq (zReg fun k => (zV 17 (vMv (.k (.int .i64 0)))) k)
  (zBlock 2 (zLoop fuel (zSeq (zSeq (zReg fun k => (zP (vInt E fLss .lss 3 false false (.v 17) (.v 7))) k)
  (zCond (.l 0) zSkip (zExit 2)))
  (zSeq (zBlock 3 (zSeq (zSeq (zReg fun k => (zP (vInt E fNeq .neq 55 false true (.v 18) (.k .nilIface))) ((zG (.l 0) false .push (zP (vMv (.v 19)))) ((zG (.l 1) false .push (zP (vLenL (.l 0)))) ((zG (.l 2) false .push (zP (vInt E fNeq .neq 3 false true (.l 0) (.k (.int .i64 1))))) ((zP (vPick (.l 3) (.k (.bool true)) (.l 0))) ((zG (.l 0) false .push (zP (vMv (.v 19)))) ((zG (.l 1) false .push (zP (vIndexAddr 15 (.l 0) (.k (.int .i64 0))))) ((zG (.l 2) false .push (zP (vFieldAddr 0 (.l 0)))) ((zG (.l 3) false .push (zL 1 false (.l 0))) ((zG (.l 4) false .push (zP (vInt E fNeq .neq 3 false true (.l 0) (.k (.int .i64 1))))) ((zP (vPick (.l 5) (.k (.bool true)) (.l 0))) ((zG (.l 0) false .push (zP (vMv (.v 19)))) ((zG (.l 1) false .push (zP (vIndexAddr 15 (.l 0) (.k (.int .i64 0))))) ((zG (.l 2) false .push (zP (vFieldAddr 6 (.l 0)))) ((zG (.l 3) false .push (zP (vFieldAddr 0 (.l 0)))) ((zG (.l 4) false .push (zL 1 false (.l 0))) ((zG (.l 5) false .push (zP (vMv (.v 17)))) ((zG (.l 6) false .push (zP (vConv .u64 (.l 0)))) ((zG (.l 7) false .push (zP (vInt E fAdd .add 33 false true (.l 0) (.k (.int .u64 1))))) ((zG (.l 8) false .push (zP (vInt E fNeq .neq 33 false false (.l 3) (.l 0)))) ((zP (vPick (.l 9) (.k (.bool true)) (.l 0))) ((zG (.l 0) false .push (zP (vMv (.v 0)))) ((zG (.l 1) false .push (zCall (cy Y) 22 [(.l 0)] .push)) ((zG (.l 2) false .push (zP (vLenL (.l 0)))) ((zG (.l 3) false .push (zP (vMv (.v 17)))) ((zG (.l 4) false .push (zP (vInt E fAdd .add 3 false true (.l 0) (.k (.int .i64 1))))) ((zG (.l 5) false .push (zP (vInt E fNeq .neq 3 false false (.l 2) (.l 0)))) ((zP (vPick (.l 6) (.k (.bool true)) (.l 0))) ((zG (.l 0) false .push (zP (vMv (.v 0)))) ((zG (.l 1) false .push (zCall (cy Y) 20 [(.l 0)] .push)) ((zG (.l 2) false .push (zP (vNot (.l 0)))) ((zP (vPick (.l 3) (.k (.bool true)) (.l 0))) k))))))))))))))))))))))))))))))))
  (zCond (.l 0) (zSeq (zReg fun k => (zV 20 (vMv (.k (.bool false)))) k)
  zRet) zSkip))
  (zDreg 1 fun n0 k => (zPD (vMv (.v 19))) ((zPD (vIndexAddr 15 (.l 0) (.k (.int .i64 0)))) ((zPD (vFieldAddr 3 (.l 0))) ((zLD B0 4 1 false (.l 0)) ((zPD (vMv (.v 19))) ((zPD (vIndexAddr 15 (.l 0) (.k (.int .i64 0)))) ((zPD (vFieldAddr 5 (.l 0))) ((zLD B0 8 1 false (.l 0)) ((zStepD E (cy Y) B0 n0 ⟨.build 42 [(0, (.k (.int .i64 2))), (2, (.k (.int .i64 100))), (3, (.l 4)), (5, (.l 0))], .push, none, false, 9, none⟩) ((zPD (vInt E fAdd .add 3 true false (.k (.int .i64 30)) (.v 17))) ((zCallD (cy Y) B0 12 18 [(.v 0), (.l 1), (.l 0)] .push) ((zVD 19 (vMv (.l 0))) k))))))))))))))
  (zReg fun k => (zP (vMv (.v 17))) ((zP (vInt E fAdd .add 3 false true (.l 0) (.k (.int .i64 1)))) ((zV 17 (vMv (.l 0))) k))))))))
  (zSeq (zReg fun k => (zCall (cy Y) 21 [(.v 0)] .push) ((zV 12 (vMv (.l 0))) k))
  (zSeq (zReg fun k => (zP (vLenL (.v 19))) ((zP (vInt E fEql .eql 3 false true (.l 0) (.k (.int .i64 0)))) ((zG (.l 0) true .push (zP (vMv (.v 0)))) ((zG (.l 1) true .push (zCall (cy Y) 20 [(.l 0)] .push)) ((zG (.l 2) true .push (zP (vNot (.l 0)))) ((zP (vPick (.l 3) (.l 0) (.k (.bool false)))) ((zG (.l 0) true .push (zP (vMv (.v 12)))) ((zG (.l 1) true .push (zP (vMv (.v 12)))) ((zG (.l 2) true .push (zP (vLenL (.l 0)))) ((zG (.l 3) true .push (zP (vInt E fSub .sub 3 false true (.l 0) (.k (.int .i64 1))))) ((zG (.l 4) true .push (zP (vIndexAddr 18 (.l 3) (.l 0)))) ((zG (.l 5) true .push (zP (vFieldAddr 10 (.l 0)))) ((zG (.l 6) true .push (zL 1 false (.l 0))) ((zG (.l 7) true .push (zP (vMv (.v 7)))) ((zG (.l 8) true .push (zP (vInt E fAdd .add 3 true false (.k (.int .i64 30)) (.l 0)))) ((zG (.l 9) true .push (zP (vInt E fSub .sub 3 false true (.l 0) (.k (.int .i64 1))))) ((zG (.l 10) true .push (zP (vInt E fEql .eql 3 false false (.l 3) (.l 0)))) ((zP (vPick (.l 11) (.l 0) (.k (.bool false)))) ((zG (.l 0) true .push (zP (vMv (.v 12)))) ((zG (.l 1) true .push (zP (vMv (.v 12)))) ((zG (.l 2) true .push (zP (vLenL (.l 0)))) ((zG (.l 3) true .push (zP (vInt E fSub .sub 3 false true (.l 0) (.k (.int .i64 1))))) ((zG (.l 4) true .push (zP (vIndexAddr 18 (.l 3) (.l 0)))) ((zG (.l 5) true .push (zP (vFieldAddr 11 (.l 0)))) ((zG (.l 6) true .push (zL 1 false (.l 0))) ((zG (.l 7) true .push (zP (vInt E fEql .eql 3 false true (.l 0) (.k (.int .i64 0))))) ((zP (vPick (.l 8) (.l 0) (.k (.bool false)))) ((zV 20 (vMv (.l 0))) k))))))))))))))))))))))))))))
  zRet)))))))))))))))))), [.tmp (.v 20)]⟩
theorem G4_ok (fn : Nat → Option Func) (pu : Nat → Bool) (pr : Nat → List AV → Option (Heap → Option (Eff × Acc))) : ZOk ⟨Tryz.tyT, fn, pu, pr⟩ npT F4 (G4 ⟨Tryz.tyT, fn, pu, pr⟩) := ⟨by kernel_rfl, by kernel_rfl, by kernel_rfl, fun cy Y k => by kernel_rfl⟩
noncomputable def F7 : FFn := cF LV 0 [4, 0, 3, 2] Tryz.f7
noncomputable def G7 (E : Env) : ZFn := ⟨21, [4, 0, 3, 2], fun cy Y fuel =>
  (zSeq (zReg fun k => (zStep E (cy Y) ⟨.alloc 26, (.var 3), none, false, 0, (some 0)⟩) k)
  (zSeq (zReg fun k => (zStep E (cy Y) ⟨.build 26 [], .push, none, false, 0, none⟩) ((zStep E (cy Y) ⟨.alloc 26, (.var 2), none, false, 1, (some 0)⟩) ((zStep E (cy Y) ⟨.store 26 (.v 2) (.l 0), .none, none, false, 2, none⟩) k)))
  (zSeq (zSeq (zReg fun k => (zV 0 (vMv (.k (.int .i64 0)))) k)
  (zBlock 0 (zLoop fuel (zSeq (zSeq (zReg fun k => (zStep E (cy Y) ⟨.most false [(.v 1), (.k (.int .i64 4))], .push, none, false, 2, none⟩) ((zStep E (cy Y) ⟨.most true [(.k (.int .i64 1)), (.l 0)], .push, none, false, 3, none⟩) ((zP (vInt E fLss .lss 3 false false (.v 0) (.l 0))) k)))
  (zCond (.l 0) zSkip (zExit 0)))
  (zSeq (zBlock 1 (zReg fun k => (zP (vFieldAddr 0 (.v 2))) ((zL 1 false (.l 0)) ((zStep E (cy Y) ⟨.build 77 [(0, (.v 0)), (1, (.k (.int .u64 1)))], .push, none, false, 3, none⟩) ((zStep E (cy Y) ⟨.buildSlice 23 1 [(0, (.l 0))], .push, none, false, 4, (some 0)⟩) ((zStep E (cy Y) ⟨.append 23 23 (.l 2) (.l 0), .push, none, false, 5, (some 1)⟩) ((zP (vFieldAddr 0 (.v 2))) ((zStep E (cy Y) ⟨.store 23 (.l 0) (.l 1), .none, none, false, 7, none⟩) k))))))))
  (zReg fun k => (zP (vMv (.v 0))) ((zP (vInt E fAdd .add 3 false true (.l 0) (.k (.int .i64 1)))) ((zV 0 (vMv (.l 0))) k))))))))
  (zSeq (zReg fun k => (zL 2 true (.v 2)) ((zStep E (cy Y) ⟨.store 26 (.v 3) (.l 0), .none, none, false, 1, none⟩) k))
  zRet)))), [.cell (.v 3) 26]⟩
theorem G7_ok (fn : Nat → Option Func) (pu : Nat → Bool) (pr : Nat → List AV → Option (Heap → Option (Eff × Acc))) : ZOk ⟨Tryz.tyT, fn, pu, pr⟩ npT F7 (G7 ⟨Tryz.tyT, fn, pu, pr⟩) := ⟨by kernel_rfl, by kernel_rfl, by kernel_rfl, fun cy Y k => by kernel_rfl⟩
noncomputable def F15 : FFn := cF LV 0 [1, 3, 2, 5, 6, 7, 9, 0] Tryz.f15
noncomputable def G15 (E : Env) : ZFn := ⟨116, [1, 3, 2, 5, 6, 7, 9, 0], fun cy Y fuel =>
  (zSeq (zReg fun k => (zV 7 (vMv (.k (.bool false)))) k)
  (zSeq (zReg fun k => (zCall (cy Y) 17 [] .push) ((zCall (cy Y) 16 [(.k (.int .i64 100)), (.l 0)] .push) ((zV 0 (vMv (.l 0))) k)))
  (zSeq (zSeq (zReg fun k => (zP (vInt E fEql .eql 51 false true (.v 0) (.k .nilptr))) k)
  (zCond (.l 0) (zSeq (zReg fun k => (zV 7 (vMv (.k (.bool false)))) k)
  zRet) zSkip))
  (zSeq (zReg fun k => (zStep E (cy Y) ⟨.build 38 [(0, (.k (.int .u64 3)))], .push, none, false, 1, none⟩) ((zStep E (cy Y) ⟨.build 59 [(0, (.k (.int .i64 1))), (1, (.k (.str [109, 49]))), (2, (.l 0))], .push, none, false, 2, none⟩) ((zCall (cy Y) 19 [(.v 0), (.l 0), (.k (.int .i64 1))] .push) ((zP (vExtract 0 (.l 0))) ((zP (vExtract 1 (.l 1))) ((zV 2 (vMv (.l 1))) ((zV 1 (vMv (.l 0))) k)))))))
  (zSeq (zReg fun k => (zStep E (cy Y) ⟨.build 59 [(0, (.k (.int .i64 2))), (1, (.k (.str [109, 49])))], .push, none, false, 1, none⟩) ((zCall (cy Y) 19 [(.v 0), (.l 0), (.k (.int .i64 2))] .push) ((zP (vExtract 0 (.l 0))) ((zP (vExtract 1 (.l 1))) ((zP (vMv (.l 1))) ((zV 3 (vMv (.l 1))) k))))))
  (zSeq (zReg fun k => (zCall (cy Y) 7 [(.k (.int .i64 1))] .push) ((zStep E (cy Y) ⟨.build 42 [(0, (.k (.int .i64 9))), (2, (.k (.int .i64 100))), (9, (.l 0))], .push, none, false, 2, none⟩) ((zCall (cy Y) 18 [(.v 0), (.l 0), (.k (.int .i64 3))] .push) ((zV 4 (vMv (.l 0))) k))))
  (zSeq (zReg fun k => (zStep E (cy Y) ⟨.build 42 [(0, (.k (.int .i64 2))), (2, (.k (.int .i64 100))), (3, (.k (.int .u64 1))), (5, (.k (.str [109, 49])))], .push, none, false, 1, none⟩) ((zCall (cy Y) 18 [(.v 0), (.l 0), (.k (.int .i64 4))] .push) k))
  (zSeq (zReg fun k => (zCall (cy Y) 21 [(.v 0)] .push) ((zV 5 (vMv (.l 0))) k))
  (zSeq (zReg fun k => (zStep E (cy Y) ⟨.build 59 [(0, (.k (.int .i64 4)))], .push, none, false, 1, none⟩) ((zCall (cy Y) 19 [(.v 0), (.l 0), (.k (.int .i64 5))] .push) ((zP (vExtract 0 (.l 0))) ((zP (vExtract 1 (.l 1))) ((zP (vMv (.l 1))) ((zV 6 (vMv (.l 1))) k))))))
  (zSeq (zReg fun k => (zP (vInt E fEql .eql 55 false true (.v 1) (.k .nilIface))) ((zG (.l 0) true .push (zP (vMv (.v 2)))) ((zG (.l 1) true .push (zP (vLenL (.l 0)))) ((zG (.l 2) true .push (zP (vInt E fEql .eql 3 false true (.l 0) (.k (.int .i64 1))))) ((zP (vPick (.l 3) (.l 0) (.k (.bool false)))) ((zG (.l 0) true .push (zP (vMv (.v 2)))) ((zG (.l 1) true .push (zP (vIndexAddr 15 (.l 0) (.k (.int .i64 0))))) ((zG (.l 2) true .push (zP (vFieldAddr 0 (.l 0)))) ((zG (.l 3) true .push (zL 1 false (.l 0))) ((zG (.l 4) true .push (zP (vInt E fEql .eql 3 false true (.l 0) (.k (.int .i64 10))))) ((zP (vPick (.l 5) (.l 0) (.k (.bool false)))) ((zG (.l 0) true .push (zP (vMv (.v 3)))) ((zG (.l 1) true .push (zStep E (cy Y) ⟨.mkIface 66 (.k (.int .i64 17)), .push, none, false, 16, none⟩)) ((zG (.l 2) true .push (zStep E (cy Y) ⟨.call 23 [(.l 1), (.l 0)], .push, none, false, 17, (some 0)⟩)) ((zP (vPick (.l 3) (.l 0) (.k (.bool false)))) ((zG (.l 0) true .push (zP (vMv (.v 4)))) ((zG (.l 1) true .push (zP (vLenL (.l 0)))) ((zG (.l 2) true .push (zP (vInt E fEql .eql 3 false true (.l 0) (.k (.int .i64 1))))) ((zP (vPick (.l 3) (.l 0) (.k (.bool false)))) ((zG (.l 0) true .push (zP (vMv (.v 4)))) ((zG (.l 1) true .push (zP (vIndexAddr 15 (.l 0) (.k (.int .i64 0))))) ((zG (.l 2) true .push (zP (vFieldAddr 0 (.l 0)))) ((zG (.l 3) true .push (zL 1 false (.l 0))) ((zG (.l 4) true .push (zP (vInt E fEql .eql 3 false true (.l 0) (.k (.int .i64 1))))) ((zP (vPick (.l 5) (.l 0) (.k (.bool false)))) ((zG (.l 0) true .push (zP (vMv (.v 4)))) ((zG (.l 1) true .push (zP (vIndexAddr 15 (.l 0) (.k (.int .i64 0))))) ((zG (.l 2) true .push (zP (vFieldAddr 6 (.l 0)))) ((zG (.l 3) true .push (zP (vFieldAddr 0 (.l 0)))) ((zG (.l 4) true .push (zL 1 false (.l 0))) ((zG (.l 5) true .push (zP (vInt E fEql .eql 33 false true (.l 0) (.k (.int .u64 3))))) ((zP (vPick (.l 6) (.l 0) (.k (.bool false)))) ((zG (.l 0) true .push (zP (vMv (.v 5)))) ((zG (.l 1) true .push (zP (vLenL (.l 0)))) ((zG (.l 2) true .push (zP (vInt E fEql .eql 3 false true (.l 0) (.k (.int .i64 1))))) ((zP (vPick (.l 3) (.l 0) (.k (.bool false)))) ((zG (.l 0) true .push (zP (vMv (.v 5)))) ((zG (.l 1) true .push (zP (vIndexAddr 18 (.l 0) (.k (.int .i64 0))))) ((zG (.l 2) true .push (zP (vFieldAddr 9 (.l 0)))) ((zG (.l 3) true .push (zL 1 false (.l 0))) ((zG (.l 4) true .push (zP (vInt E fEql .eql 3 false true (.l 0) (.k (.int .i64 1))))) ((zP (vPick (.l 5) (.l 0) (.k (.bool false)))) ((zG (.l 0) true .push (zP (vMv (.v 5)))) ((zG (.l 1) true .push (zP (vIndexAddr 18 (.l 0) (.k (.int .i64 0))))) ((zG (.l 2) true .push (zP (vFieldAddr 10 (.l 0)))) ((zG (.l 3) true .push (zL 1 false (.l 0))) ((zG (.l 4) true .push (zP (vInt E fEql .eql 3 false true (.l 0) (.k (.int .i64 4))))) ((zP (vPick (.l 5) (.l 0) (.k (.bool false)))) ((zG (.l 0) true .push (zP (vMv (.v 6)))) ((zG (.l 1) true .push (zStep E (cy Y) ⟨.mkIface 66 (.k (.int .i64 20)), .push, none, false, 60, none⟩)) ((zG (.l 2) true .push (zStep E (cy Y) ⟨.call 23 [(.l 1), (.l 0)], .push, none, false, 61, (some 1)⟩)) ((zP (vPick (.l 3) (.l 0) (.k (.bool false)))) ((zG (.l 0) true .push (zP (vMv (.v 0)))) ((zG (.l 1) true .push (zCall (cy Y) 20 [(.l 0)] .push)) ((zG (.l 2) true .push (zP (vNot (.l 0)))) ((zP (vPick (.l 3) (.l 0) (.k (.bool false)))) ((zG (.l 0) true .push (zP (vMv (.v 0)))) ((zG (.l 1) true .push (zCall (cy Y) 22 [(.l 0)] .push)) ((zG (.l 2) true .push (zP (vLenL (.l 0)))) ((zG (.l 3) true .push (zP (vInt E fEql .eql 3 false true (.l 0) (.k (.int .i64 1))))) ((zP (vPick (.l 4) (.l 0) (.k (.bool false)))) ((zV 7 (vMv (.l 0))) k))))))))))))))))))))))))))))))))))))))))))))))))))))))))))))))
  zRet)))))))))), [.tmp (.v 7)]⟩
theorem G15_ok (fn : Nat → Option Func) (pu : Nat → Bool) (pr : Nat → List AV → Option (Heap → Option (Eff × Acc))) : ZOk ⟨Tryz.tyT, fn, pu, pr⟩ npT F15 (G15 ⟨Tryz.tyT, fn, pu, pr⟩) := ⟨by kernel_rfl, by kernel_rfl, by kernel_rfl, fun cy Y k => by kernel_rfl⟩
noncomputable def F16 : FFn := cF LV 0 [0, 1, 4] Tryz.f16
noncomputable def G16 (E : Env) : ZFn := ⟨12, [0, 1, 4], fun cy Y fuel =>
  (zSeq (zReg fun k => (zV 2 (vMv (.k .nilptr))) k)
  (zSeq (zReg fun k => (zStep E (cy Y) ⟨.call 32 [(.v 1)], .push, none, false, 2, (some 0)⟩) ((zCall (cy Y) 47 [(.v 1)] .push) ((zStep E (cy Y) ⟨.build 109 [(0, (.v 0)), (1, (.l 1)), (3, (.l 0))], .push, none, false, 5, none⟩) ((zStep E (cy Y) ⟨.box 109 (.l 0), .push, none, false, 6, (some 2)⟩) ((zV 2 (vMv (.l 0))) k)))))
  zRet)), [.tmp (.v 2)]⟩
theorem G16_ok (fn : Nat → Option Func) (pu : Nat → Bool) (pr : Nat → List AV → Option (Heap → Option (Eff × Acc))) : ZOk ⟨Tryz.tyT, fn, pu, pr⟩ npT F16 (G16 ⟨Tryz.tyT, fn, pu, pr⟩) := ⟨by kernel_rfl, by kernel_rfl, by kernel_rfl, fun cy Y k => by kernel_rfl⟩
noncomputable def F17 : FFn := cF LV 0 [0] Tryz.f17
noncomputable def G17 (E : Env) : ZFn := ⟨11, [0], fun cy Y fuel =>
  (zSeq (zReg fun k => (zV 0 (vMv (.k (.sl 0 [] true)))) k)
  (zSeq (zReg fun k => (zStep E (cy Y) ⟨.build 81 [(0, (.k (.int .i64 1)))], .push, none, false, 0, none⟩) ((zStep E (cy Y) ⟨.build 83 [(0, (.k (.str [109]))), (1, (.k (.int .i64 1))), (2, (.l 0))], .push, none, false, 1, none⟩) ((zStep E (cy Y) ⟨.build 81 [(0, (.k (.int .i64 3)))], .push, none, false, 2, none⟩) ((zStep E (cy Y) ⟨.build 83 [(0, (.k (.str [115]))), (1, (.k (.int .i64 1))), (2, (.l 0))], .push, none, false, 3, none⟩) ((zStep E (cy Y) ⟨.build 81 [(0, (.k (.int .i64 6)))], .push, none, false, 4, none⟩) ((zStep E (cy Y) ⟨.build 83 [(0, (.k (.str [108]))), (1, (.k (.int .i64 2))), (2, (.l 0))], .push, none, false, 5, none⟩) ((zStep E (cy Y) ⟨.build 81 [(0, (.k (.int .i64 3)))], .push, none, false, 6, none⟩) ((zCall (cy Y) 35 [(.l 0)] .push) ((zStep E (cy Y) ⟨.build 83 [(0, (.k (.str [99]))), (1, (.k (.int .i64 3))), (2, (.l 0))], .push, none, false, 8, none⟩) ((zStep E (cy Y) ⟨.buildSlice 31 4 [(0, (.l 7)), (1, (.l 5)), (2, (.l 3)), (3, (.l 0))], .push, none, false, 9, (some 1)⟩) ((zV 0 (vMv (.l 0))) k)))))))))))
  zRet)), [.tmp (.v 0)]⟩
theorem G17_ok (fn : Nat → Option Func) (pu : Nat → Bool) (pr : Nat → List AV → Option (Heap → Option (Eff × Acc))) : ZOk ⟨Tryz.tyT, fn, pu, pr⟩ npT F17 (G17 ⟨Tryz.tyT, fn, pu, pr⟩) := ⟨by kernel_rfl, by kernel_rfl, by kernel_rfl, fun cy Y k => by kernel_rfl⟩
noncomputable def F18 : FFn := cF LV 0 [1, 4, 0, 7, 2, 6] Tryz.f18
noncomputable def G18 (E : Env) : ZFn := ⟨134, [1, 4, 0, 7, 2, 6], fun cy Y fuel =>
  (zSeq (zReg fun k => (zStep E (cy Y) ⟨.box 42 (.v 0), (.var 1), none, false, 0, (some 0)⟩) ((zV 5 (vMv (.k (.sl 0 [] true)))) k))
  (zSeq (zSeq (zDreg 1 fun n0 k => (zPD (vFieldAddr 2 (.v 1))) ((zLD B1 1 1 false (.l 0)) ((zPD (vNilCheck (.v 2))) ((zPD (vFieldAddr 0 (.l 0))) ((zLD B1 5 1 false (.l 0)) ((zPD (vInt E fNeq .neq 3 false false (.l 3) (.l 0))) ((zGD (.l 0) false .push (zPD (vMv (.v 2)))) ((zGD (.l 1) false .push (zPD (vNilCheck (.l 0)))) ((zGD (.l 2) false .push (zPD (vFieldAddr 1 (.l 0)))) ((zGD (.l 3) false .push (zLD B1 11 1 false (.l 0))) ((zGD (.l 4) false .push (zLD B1 12 15 true (.v 1))) ((zGD (.l 5) false .push (zCallD (cy Y) B1 13 36 [(.l 1), (.l 0)] .push)) ((zGD (.l 6) false .push (zPD (vNot (.l 0)))) ((zPD (vPick (.l 7) (.k (.bool true)) (.l 0))) k))))))))))))))
  (zCond (.l 0) (zSeq (zReg fun k => (zV 5 (vMv (.k (.sl 0 [] true)))) k)
  zRet) zSkip))
  (zSeq (zSeq (zReg fun k => (zP (vFieldAddr 0 (.v 1))) ((zL 1 false (.l 0)) ((zP (vInt E fEql .eql 3 false true (.l 0) (.k (.int .i64 9)))) k)))
  (zCond (.l 0) (zSeq (zDreg 1 fun n0 k => (zPD (vNilCheck (.v 2))) ((zPD (vFieldAddr 2 (.l 0))) ((zLD B2 4 2 true (.l 0)) ((zPD (vFieldAddr 13 (.v 1))) ((zLD B2 6 2 true (.l 0)) ((zCallD (cy Y) B2 7 48 [(.l 2), (.l 0)] .push) ((zPD (vNilCheck (.v 2))) ((zPD (vFieldAddr 2 (.l 0))) ((zStepD E (cy Y) B2 n0 ⟨.store 26 (.l 0) (.l 2), .none, none, false, 10, none⟩) k)))))))))
  (zSeq (zReg fun k => (zCall (cy Y) 49 [(.v 2)] .push) ((zV 5 (vMv (.l 0))) k))
  zRet)) zSkip))
  (zSeq (zDreg 2 fun n0 k => (zPD (vFieldAddr 0 (.v 1))) ((zLD B3 1 1 false (.l 0)) ((zPD (vInt E fEql .eql 3 false true (.l 0) (.k (.int .i64 2)))) ((zPD (vFieldAddr 0 (.v 1))) ((zLD B3 4 1 false (.l 0)) ((zPD (vInt E fEql .eql 3 false true (.l 0) (.k (.int .i64 4)))) ((zCallD (cy Y) B3 6 50 [(.l 0), (.k (.int .i64 3)), (.k (.int .i64 0))] .push) ((zCallD (cy Y) B3 7 50 [(.l 4), (.k (.int .i64 1)), (.l 0)] .push) ((zVD 3 (vMv (.l 0))) k)))))))))
  (zSeq (zSeq (zDreg 0 fun n0 k => (zPD (vNilCheck (.v 2))) ((zPD (vFieldAddr 8 (.l 0))) ((zLD B4 3 1 false (.l 0)) ((zPD (vInt E fEql .eql 105 false true (.l 0) (.k .nilptr))) ((zGD (.l 0) false .push (zPD (vMv (.v 2)))) ((zGD (.l 1) false .push (zPD (vNilCheck (.l 0)))) ((zGD (.l 2) false .push (zPD (vFieldAddr 8 (.l 0)))) ((zGD (.l 3) false .push (zLD B4 9 1 false (.l 0))) ((zGD (.l 4) false .push (zPD (vNilCheck (.l 0)))) ((zGD (.l 5) false .push (zPD (vFieldAddr 0 (.l 0)))) ((zGD (.l 6) false .push (zLD B4 12 1 false (.l 0))) ((zGD (.l 7) false .push (zPD (vMv (.v 3)))) ((zGD (.l 8) false .push (zPD (vInt E fNeq .neq 3 false false (.l 1) (.l 0)))) ((zPD (vPick (.l 9) (.k (.bool true)) (.l 0))) ((zGD (.l 0) false .push (zPD (vMv (.v 2)))) ((zGD (.l 1) false .push (zPD (vNilCheck (.l 0)))) ((zGD (.l 2) false .push (zPD (vFieldAddr 8 (.l 0)))) ((zGD (.l 3) false .push (zLD B4 20 1 false (.l 0))) ((zGD (.l 4) false .push (zPD (vNilCheck (.l 0)))) ((zGD (.l 5) false .push (zPD (vFieldAddr 1 (.l 0)))) ((zGD (.l 6) false .push (zLD B4 23 1 false (.l 0))) ((zGD (.l 7) false .push (zPD (vFieldAddr 3 (.v 1)))) ((zGD (.l 8) false .push (zLD B4 25 1 false (.l 0))) ((zGD (.l 9) false .push (zPD (vInt E fNeq .neq 33 false false (.l 2) (.l 0)))) ((zPD (vPick (.l 10) (.k (.bool true)) (.l 0))) k)))))))))))))))))))))))))
  (zCond (.l 0) (zSeq (zReg fun k => (zV 5 (vMv (.k (.sl 0 [] true)))) k)
  zRet) zSkip))
  (zSeq (zBlock 0 (zSeq (zReg fun k => (zP (vFieldAddr 4 (.v 1))) ((zL 1 false (.l 0)) ((zP (vInt E fEql .eql 3 false true (.l 0) (.k (.int .i64 21)))) ((zP (vMv (.l 0))) k))))
  (zCond (.l 0) (zSeq (zDreg 1 fun n0 k => (zPD (vNilCheck (.v 2))) ((zPD (vFieldAddr 0 (.l 0))) ((zLD B5 3 1 false (.l 0)) ((zPD (vFieldAddr 1 (.v 1))) ((zLD B5 5 1 false (.l 0)) ((zPD (vNilCheck (.v 2))) ((zPD (vFieldAddr 8 (.l 0))) ((zLD B5 9 1 false (.l 0)) ((zPD (vNilCheck (.l 0))) ((zPD (vFieldAddr 1 (.l 0))) ((zLD B5 12 1 false (.l 0)) ((zStepD E (cy Y) B5 n0 ⟨.build 42 [(0, (.k (.int .i64 10))), (1, (.l 8)), (2, (.l 6)), (3, (.l 0))], .push, none, false, 13, none⟩) ((zStepD E (cy Y) B5 n0 ⟨.buildSlice 44 1 [(0, (.l 0))], .push, none, false, 14, (some 0)⟩) ((zVD 5 (vMv (.l 0))) k))))))))))))))
  zRet) (zSeq (zReg fun k => (zP (vFieldAddr 4 (.v 1))) ((zL 1 false (.l 0)) ((zP (vInt E fNeq .neq 3 false true (.l 0) (.k (.int .i64 0)))) ((zP (vMv (.l 0))) k))))
  (zCond (.l 0) (zSeq (zReg fun k => (zP (vFieldAddr 4 (.v 1))) ((zL 1 false (.l 0)) ((zStep E (cy Y) ⟨.build 38 [], .push, none, false, 4, none⟩) ((zCall (cy Y) 51 [(.v 2), (.v 4), (.l 1), (.l 0)] .push) k))))
  (zSeq (zReg fun k => (zV 5 (vMv (.k (.sl 0 [] true)))) k)
  zRet)) (zSeq (zReg fun k => (zP (vInt E fEql .eql 3 false true (.v 3) (.k (.int .i64 3)))) ((zP (vMv (.l 0))) k))
  (zCond (.l 0) (zSeq (zReg fun k => (zL 15 true (.v 1)) ((zCall (cy Y) 52 [(.v 2), (.l 0), (.v 4)] .push) ((zV 5 (vMv (.l 0))) k)))
  zRet) (zSeq (zDreg 0 fun n0 k => (zPD (vNilCheck (.v 2))) ((zPD (vFieldAddr 6 (.l 0))) ((zLD B6 3 1 false (.l 0)) ((zPD (vNilCheck (.v 2))) ((zPD (vFieldAddr 6 (.l 0))) ((zLD B6 7 1 false (.l 0)) ((zPD (vLenL (.l 0))) ((zPD (vInt E fSub .sub 3 false true (.l 0) (.k (.int .i64 1)))) ((zPD (vIndexAddr 18 (.l 5) (.l 0))) ((zPD (vFieldAddr 2 (.l 0))) ((zPD (vFieldAddr 0 (.l 0))) ((zLD B6 13 1 false (.l 0)) ((zPD (vInt E fEql .eql 3 false true (.l 0) (.k (.int .i64 4)))) ((zPD (vMv (.l 0))) k))))))))))))))
  (zCond (.l 0) (zSeq (zReg fun k => (zCall (cy Y) 53 [(.v 2), (.v 4)] .push) ((zV 5 (vMv (.l 0))) k))
  zRet) zSkip)))))))))
  (zSeq (zReg fun k => (zStep E (cy Y) ⟨.build 38 [], .push, none, false, 2, none⟩) ((zCall (cy Y) 51 [(.v 2), (.v 4), (.k (.int .i64 0)), (.l 0)] .push) k))
  (zSeq (zReg fun k => (zV 5 (vMv (.k (.sl 0 [] true)))) k)
  zRet)))))))), [.tmp (.v 5)]⟩
theorem G18_ok (fn : Nat → Option Func) (pu : Nat → Bool) (pr : Nat → List AV → Option (Heap → Option (Eff × Acc))) : ZOk ⟨Tryz.tyT, fn, pu, pr⟩ npT F18 (G18 ⟨Tryz.tyT, fn, pu, pr⟩) := ⟨by kernel_rfl, by kernel_rfl, by kernel_rfl, fun cy Y k => by kernel_rfl⟩
noncomputable def F19 : FFn := cF LV 0 [1, 0, 4, 8, 16, 2, 6, 7] Tryz.f19
noncomputable def G19 (E : Env) : ZFn := ⟨61, [1, 0, 4, 8, 16, 2, 6, 7], fun cy Y fuel =>
  (zSeq (zReg fun k => (zStep E (cy Y) ⟨.box 59 (.v 0), (.var 2), none, false, 0, (some 0)⟩) ((zV 6 (vMv (.k (.sl 0 [] true)))) ((zV 7 (vMv (.k .nilIface))) k)))
  (zSeq (zSeq (zReg fun k => (zL 7 true (.v 2)) ((zCall (cy Y) 54 [(.v 1), (.l 0)] .push) ((zV 3 (vMv (.l 0))) k)))
  (zSeq (zReg fun k => (zP (vInt E fNeq .neq 55 false true (.v 3) (.k .nilIface))) k)
  (zCond (.l 0) (zSeq (zReg fun k => (zV 6 (vMv (.k (.sl 0 [] true)))) ((zV 7 (vMv (.v 3))) k))
  zRet) zSkip)))
  (zSeq (zSeq (zReg fun k => (zP (vFieldAddr 0 (.v 2))) ((zDstW (.var 4) (wLoad 1 false (.l 0))) k))
  (zBlock 0 (zSeq (zReg fun k => (zP (vInt E fEql .eql 3 false true (.v 4) (.k (.int .i64 1)))) ((zP (vMv (.l 0))) k))
  (zCond (.l 0) (zSeq (zReg fun k => (zL 7 true (.v 2)) ((zCall (cy Y) 55 [(.v 1), (.l 0), (.v 5)] .push) ((zP (vExtract 0 (.l 0))) ((zP (vExtract 1 (.l 1))) ((zV 6 (vMv (.l 1))) ((zV 7 (vMv (.l 0))) k))))))
  zRet) (zSeq (zReg fun k => (zP (vInt E fEql .eql 3 false true (.v 4) (.k (.int .i64 2)))) ((zP (vMv (.l 0))) k))
  (zCond (.l 0) (zSeq (zReg fun k => (zL 7 true (.v 2)) ((zCall (cy Y) 56 [(.v 1), (.l 0), (.v 5)] .push) ((zV 6 (vMv (.l 0))) ((zV 7 (vMv (.k .nilIface))) k))))
  zRet) (zSeq (zReg fun k => (zP (vInt E fEql .eql 3 false true (.v 4) (.k (.int .i64 3)))) ((zP (vMv (.l 0))) k))
  (zCond (.l 0) (zSeq (zReg fun k => (zP (vNilCheck (.v 1))) ((zP (vFieldAddr 9 (.l 0))) ((zL 1 false (.l 0)) ((zP (vInt E fAdd .add 3 false true (.l 0) (.k (.int .i64 1)))) ((zP (vNilCheck (.v 1))) ((zP (vFieldAddr 9 (.l 0))) ((zStep E (cy Y) ⟨.store 3 (.l 0) (.l 2), .none, none, false, 7, none⟩) k)))))))
  (zReg fun k => (zStep E (cy Y) ⟨.mkMap 87, .push, none, false, 2, (some 0)⟩) ((zP (vNilCheck (.v 1))) ((zP (vFieldAddr 10 (.l 0))) ((zStep E (cy Y) ⟨.store 4 (.l 0) (.k (.bool true)), .none, none, false, 5, none⟩) ((zP (vNilCheck (.v 1))) ((zP (vFieldAddr 12 (.l 0))) ((zStep E (cy Y) ⟨.store 87 (.l 0) (.l 4), .none, none, false, 8, none⟩) k)))))))) zSkip))))))))
  (zSeq (zReg fun k => (zL 7 true (.v 2)) ((zCall (cy Y) 57 [(.v 1), (.l 0), (.v 5)] .push) k))
  (zSeq (zSeq (zReg fun k => (zP (vFieldAddr 0 (.v 2))) ((zL 1 false (.l 0)) ((zP (vInt E fEql .eql 3 false true (.l 0) (.k (.int .i64 4)))) k)))
  (zCond (.l 0) (zSeq (zReg fun k => (zCall (cy Y) 53 [(.v 1), (.v 5)] .push) ((zV 6 (vMv (.l 0))) ((zV 7 (vMv (.k .nilIface))) k)))
  zRet) zSkip))
  (zSeq (zReg fun k => (zStep E (cy Y) ⟨.build 38 [], .push, none, false, 2, none⟩) ((zCall (cy Y) 51 [(.v 1), (.v 5), (.k (.int .i64 0)), (.l 0)] .push) k))
  (zSeq (zReg fun k => (zV 6 (vMv (.k (.sl 0 [] true)))) ((zV 7 (vMv (.k .nilIface))) k))
  zRet))))))), [.tmp (.v 6), .tmp (.v 7)]⟩
theorem G19_ok (fn : Nat → Option Func) (pu : Nat → Bool) (pr : Nat → List AV → Option (Heap → Option (Eff × Acc))) : ZOk ⟨Tryz.tyT, fn, pu, pr⟩ npT F19 (G19 ⟨Tryz.tyT, fn, pu, pr⟩) := ⟨by kernel_rfl, by kernel_rfl, by kernel_rfl, fun cy Y k => by kernel_rfl⟩
noncomputable def F20 : FFn := cF LV 0 [0, 2] Tryz.f20
noncomputable def G20 (E : Env) : ZFn := ⟨8, [0, 2], fun cy Y fuel =>
  (zSeq (zReg fun k => (zV 1 (vMv (.k (.bool false)))) k)
  (zSeq (zReg fun k => (zP (vNilCheck (.v 0))) ((zP (vFieldAddr 8 (.l 0))) ((zL 1 false (.l 0)) ((zP (vInt E fNeq .neq 105 false true (.l 0) (.k .nilptr))) ((zV 1 (vMv (.l 0))) k)))))
  zRet)), [.tmp (.v 1)]⟩
theorem G20_ok (fn : Nat → Option Func) (pu : Nat → Bool) (pr : Nat → List AV → Option (Heap → Option (Eff × Acc))) : ZOk ⟨Tryz.tyT, fn, pu, pr⟩ npT F20 (G20 ⟨Tryz.tyT, fn, pu, pr⟩) := ⟨by kernel_rfl, by kernel_rfl, by kernel_rfl, fun cy Y k => by kernel_rfl⟩
noncomputable def F21 : FFn := cF LV 0 [0, 2] Tryz.f21
noncomputable def G21 (E : Env) : ZFn := ⟨8, [0, 2], fun cy Y fuel =>
  (zSeq (zReg fun k => (zV 1 (vMv (.k (.sl 0 [] true)))) k)
  (zSeq (zReg fun k => (zP (vNilCheck (.v 0))) ((zP (vFieldAddr 6 (.l 0))) ((zL 1 false (.l 0)) ((zStep E (cy Y) ⟨.call 58 [(.l 0)], .push, none, false, 4, (some 0)⟩) ((zV 1 (vMv (.l 0))) k)))))
  zRet)), [.tmp (.v 1)]⟩
theorem G21_ok (fn : Nat → Option Func) (pu : Nat → Bool) (pr : Nat → List AV → Option (Heap → Option (Eff × Acc))) : ZOk ⟨Tryz.tyT, fn, pu, pr⟩ npT F21 (G21 ⟨Tryz.tyT, fn, pu, pr⟩) := ⟨by kernel_rfl, by kernel_rfl, by kernel_rfl, fun cy Y k => by kernel_rfl⟩
noncomputable def F22 : FFn := cF LV 0 [0, 2] Tryz.f22
noncomputable def G22 (E : Env) : ZFn := ⟨8, [0, 2], fun cy Y fuel =>
  (zSeq (zReg fun k => (zV 1 (vMv (.k (.sl 0 [] true)))) k)
  (zSeq (zReg fun k => (zP (vNilCheck (.v 0))) ((zP (vFieldAddr 7 (.l 0))) ((zL 1 false (.l 0)) ((zStep E (cy Y) ⟨.call 59 [(.l 0)], .push, none, false, 4, (some 0)⟩) ((zV 1 (vMv (.l 0))) k)))))
  zRet)), [.tmp (.v 1)]⟩
theorem G22_ok (fn : Nat → Option Func) (pu : Nat → Bool) (pr : Nat → List AV → Option (Heap → Option (Eff × Acc))) : ZOk ⟨Tryz.tyT, fn, pu, pr⟩ npT F22 (G22 ⟨Tryz.tyT, fn, pu, pr⟩) := ⟨by kernel_rfl, by kernel_rfl, by kernel_rfl, fun cy Y k => by kernel_rfl⟩
noncomputable def F35 : FFn := cF LV 0 [0, 3, 1, 2] Tryz.f35
noncomputable def G35 (E : Env) : ZFn := ⟨13, [0, 3, 1, 2], fun cy Y fuel =>
  (zSeq (zReg fun k => (zStep E (cy Y) ⟨.box 81 (.v 0), (.var 2), none, false, 0, (some 0)⟩) ((zStep E (cy Y) ⟨.alloc 81, (.var 3), none, false, 1, (some 1)⟩) k))
  (zSeq (zReg fun k => (zStep E (cy Y) ⟨.build 81 [(0, (.k (.int .i64 7)))], .push, none, false, 0, none⟩) ((zStep E (cy Y) ⟨.buildSlice 79 1 [(0, (.l 0))], .push, none, false, 1, (some 0)⟩) ((zStep E (cy Y) ⟨.build 81 [(0, (.k (.int .i64 4))), (1, (.l 0))], .push, none, false, 2, none⟩) ((zStep E (cy Y) ⟨.alloc 81, (.var 1), none, false, 3, (some 1)⟩) ((zStep E (cy Y) ⟨.store 81 (.v 1) (.l 0), .none, none, false, 4, none⟩) k)))))
  (zSeq (zReg fun k => (zL 2 true (.v 1)) ((zL 2 true (.v 2)) ((zStep E (cy Y) ⟨.buildSlice 79 2 [(0, (.l 1)), (1, (.l 0))], .push, none, false, 2, (some 0)⟩) ((zStep E (cy Y) ⟨.build 81 [(0, (.k (.int .i64 5))), (1, (.l 0))], .push, none, false, 3, none⟩) ((zStep E (cy Y) ⟨.buildSlice 79 1 [(0, (.l 0))], .push, none, false, 4, (some 1)⟩) ((zStep E (cy Y) ⟨.build 81 [(0, (.k (.int .i64 8))), (1, (.l 0))], .push, none, false, 5, none⟩) ((zStep E (cy Y) ⟨.store 81 (.v 3) (.l 0), .none, none, false, 6, none⟩) k)))))))
  zRet))), [.cell (.v 3) 81]⟩
theorem G35_ok (fn : Nat → Option Func) (pu : Nat → Bool) (pr : Nat → List AV → Option (Heap → Option (Eff × Acc))) : ZOk ⟨Tryz.tyT, fn, pu, pr⟩ npT F35 (G35 ⟨Tryz.tyT, fn, pu, pr⟩) := ⟨by kernel_rfl, by kernel_rfl, by kernel_rfl, fun cy Y k => by kernel_rfl⟩
noncomputable def F36 : FFn := cF LV 0 [1, 3, 0, 5, 7, 4] Tryz.f36
noncomputable def G36 (E : Env) : ZFn := ⟨96, [1, 3, 0, 5, 7, 4], fun cy Y fuel =>
  (zSeq (zReg fun k => (zStep E (cy Y) ⟨.box 42 (.v 0), (.var 1), none, false, 0, (some 0)⟩) ((zV 5 (vMv (.k (.bool false)))) k))
  (zSeq (zReg fun k => (zL 15 true (.v 1)) ((zCall (cy Y) 74 [(.l 0)] .push) ((zStep E (cy Y) ⟨.alloc 142, (.var 3), none, false, 2, (some 1)⟩) ((zStep E (cy Y) ⟨.store 142 (.v 3) (.l 0), .none, none, false, 3, none⟩) k))))
  (zSeq (zSeq (zReg fun k => (zStep E (cy Y) ⟨.call 75 [(.v 2)], .push, none, false, 1, (some 0)⟩) ((zP (vNot (.l 0))) ((zG (.l 0) false .push (zP (vFieldAddr 0 (.v 1)))) ((zG (.l 1) false .push (zL 1 false (.l 0))) ((zG (.l 2) false .push (zP (vInt E fLss .lss 3 false true (.l 0) (.k (.int .i64 1))))) ((zP (vPick (.l 3) (.k (.bool true)) (.l 0))) ((zG (.l 0) false .push (zP (vFieldAddr 0 (.v 1)))) ((zG (.l 1) false .push (zL 1 false (.l 0))) ((zG (.l 2) false .push (zP (vInt E fGtr .gtr 3 false true (.l 0) (.k (.int .i64 10))))) ((zP (vPick (.l 3) (.k (.bool true)) (.l 0))) ((zG (.l 0) false .push (zP (vFieldAddr 1 (.v 1)))) ((zG (.l 1) false .push (zL 1 false (.l 0))) ((zG (.l 2) false .push (zCall (cy Y) 76 [(.l 0)] .push)) ((zG (.l 3) false .push (zP (vNot (.l 0)))) ((zP (vPick (.l 4) (.k (.bool true)) (.l 0))) ((zG (.l 0) false .push (zP (vFieldAddr 2 (.v 1)))) ((zG (.l 1) false .push (zL 1 false (.l 0))) ((zG (.l 2) false .push (zCall (cy Y) 76 [(.l 0)] .push)) ((zG (.l 3) false .push (zP (vNot (.l 0)))) ((zP (vPick (.l 4) (.k (.bool true)) (.l 0))) ((zG (.l 0) false .push (zP (vFieldAddr 4 (.v 1)))) ((zG (.l 1) false .push (zL 1 false (.l 0))) ((zG (.l 2) false .push (zP (vInt E fLss .lss 3 false true (.l 0) (.k (.int .i64 0))))) ((zP (vPick (.l 3) (.k (.bool true)) (.l 0))) ((zG (.l 0) false .push (zP (vFieldAddr 4 (.v 1)))) ((zG (.l 1) false .push (zL 1 false (.l 0))) ((zG (.l 2) false .push (zP (vInt E fGtr .gtr 3 false true (.l 0) (.k (.int .i64 100))))) ((zP (vPick (.l 3) (.k (.bool true)) (.l 0))) ((zG (.l 0) false .push (zL 5 true (.v 3))) ((zG (.l 1) false .push (zL 15 true (.v 1))) ((zG (.l 2) false .push (zStep E (cy Y) ⟨.call 77 [(.l 1), (.l 0)], .push, none, false, 38, (some 3)⟩)) ((zG (.l 3) false .push (zP (vNot (.l 0)))) ((zP (vPick (.l 4) (.k (.bool true)) (.l 0))) k)))))))))))))))))))))))))))))))))
  (zCond (.l 0) (zSeq (zReg fun k => (zV 5 (vMv (.k (.bool false)))) k)
  zRet) zSkip))
  (zSeq (zSeq (zReg fun k => (zP (vFieldAddr 5 (.v 1))) ((zL 1 false (.l 0)) ((zCall (cy Y) 78 [(.v 2), (.l 0)] .push) ((zP (vExtract 0 (.l 0))) ((zP (vExtract 1 (.l 1))) ((zStep E (cy Y) ⟨.alloc 83, .push, none, false, 7, (some 1)⟩) ((zStep E (cy Y) ⟨.store 83 (.l 0) (.l 2), .none, none, false, 8, none⟩) ((zV 4 (vMv (.l 1))) k))))))))
  (zSeq (zReg fun k => (zP (vFieldAddr 0 (.v 3))) ((zL 1 false (.l 0)) ((zG (.l 0) true .push (zP (vMv (.v 4)))) ((zG (.l 1) true .push (zP (vNot (.l 0)))) ((zP (vPick (.l 2) (.l 0) (.k (.bool false)))) ((zG (.l 0) false .push (zP (vFieldAddr 1 (.v 3)))) ((zG (.l 1) false .push (zL 1 false (.l 0))) ((zG (.l 2) false .push (zP (vMv (.l 0)))) ((zG (.l 0) true .push (zP (vMv (.v 2)))) ((zG (.l 1) true .push (zP (vFieldAddr 5 (.v 1)))) ((zG (.l 2) true .push (zL 1 false (.l 0))) ((zG (.l 3) true .push (zP (vFieldAddr 6 (.v 1)))) ((zG (.l 4) true .push (zL 5 true (.l 0))) ((zG (.l 5) true .push (zCall (cy Y) 79 [(.l 4), (.l 2), (.l 0)] .push)) ((zG (.l 6) true .push (zP (vNot (.l 0)))) ((zG (.l 10) false .push (zP (vPick (.l 7) (.l 0) (.k (.bool false))))) ((zP (vPick (.l 11) (.k (.bool true)) (.l 0))) ((zG (.l 0) false .push (zP (vFieldAddr 13 (.v 1)))) ((zG (.l 1) false .push (zL 2 true (.l 0))) ((zG (.l 2) false .push (zCall (cy Y) 80 [(.l 0)] .push)) ((zG (.l 3) false .push (zP (vNot (.l 0)))) ((zP (vPick (.l 4) (.k (.bool true)) (.l 0))) k))))))))))))))))))))))
  (zCond (.l 0) (zSeq (zReg fun k => (zV 5 (vMv (.k (.bool false)))) k)
  zRet) zSkip)))
  (zSeq (zReg fun k => (zP (vFieldAddr 11 (.v 1))) ((zL 1 false (.l 0)) ((zP (vFieldAddr 0 (.v 1))) ((zL 1 false (.l 0)) ((zP (vInt E fEql .eql 3 false true (.l 0) (.k (.int .i64 8)))) ((zCall (cy Y) 81 [(.v 2), (.l 3), (.l 0)] .push) ((zG (.l 0) true .push (zP (vMv (.v 2)))) ((zG (.l 1) true .push (zP (vFieldAddr 12 (.v 1)))) ((zG (.l 2) true .push (zL 1 false (.l 0))) ((zG (.l 3) true .push (zCall (cy Y) 82 [(.l 2), (.l 0), (.k (.clo 83 []))] .push)) ((zP (vPick (.l 4) (.l 0) (.k (.bool false)))) ((zV 5 (vMv (.l 0))) k))))))))))))
  zRet))))), [.tmp (.v 5)]⟩
theorem G36_ok (fn : Nat → Option Func) (pu : Nat → Bool) (pr : Nat → List AV → Option (Heap → Option (Eff × Acc))) : ZOk ⟨Tryz.tyT, fn, pu, pr⟩ npT F36 (G36 ⟨Tryz.tyT, fn, pu, pr⟩) := ⟨by kernel_rfl, by kernel_rfl, by kernel_rfl, fun cy Y k => by kernel_rfl⟩
noncomputable def F46 : FFn := cF LV 0 [0, 1, 6, 5, 4, 7] Tryz.f46
noncomputable def G46 (E : Env) : ZFn := ⟨33, [0, 1, 6, 5, 4, 7], fun cy Y fuel =>
  (zSeq (zReg fun k => (zStep E (cy Y) ⟨.alloc 38, (.var 4), none, false, 0, (some 0)⟩) k)
  (zSeq (zSeq (zReg fun k => (zP (vNilCheck (.v 0))) ((zP (vFieldAddr 1 (.l 0))) ((zP (vFieldAddr 1 (.l 0))) ((zL 1 false (.l 0)) ((zStep E (cy Y) ⟨.lookup 87 (.l 0) (.v 1) true, .push, none, false, 6, none⟩) ((zP (vExtract 0 (.l 0))) ((zP (vExtract 1 (.l 1))) ((zStep E (cy Y) ⟨.alloc 38, (.var 3), none, false, 10, (some 0)⟩) ((zStep E (cy Y) ⟨.store 38 (.v 3) (.l 1), .none, none, false, 11, none⟩) ((zV 2 (vMv (.l 0))) k))))))))))
  (zSeq (zReg fun k => k)
  (zCond (.v 2) (zSeq (zReg fun k => (zL 5 true (.v 3)) ((zStep E (cy Y) ⟨.store 38 (.v 4) (.l 0), .none, none, false, 1, none⟩) k))
  zRet) zSkip)))
  (zSeq (zReg fun k => (zP (vNilCheck (.v 0))) ((zP (vFieldAddr 0 (.l 0))) ((zL 1 false (.l 0)) ((zCall (cy Y) 78 [(.l 0), (.v 1)] .push) ((zP (vExtract 0 (.l 0))) ((zP (vExtract 1 (.l 1))) ((zStep E (cy Y) ⟨.alloc 83, (.var 5), none, false, 9, (some 1)⟩) ((zStep E (cy Y) ⟨.store 83 (.v 5) (.l 1), .none, none, false, 10, none⟩) ((zP (vMv (.l 0))) k)))))))))
  (zSeq (zReg fun k => (zP (vFieldAddr 2 (.v 5))) ((zL 2 true (.l 0)) ((zStep E (cy Y) ⟨.call 95 [(.l 0)], .push, none, false, 2, (some 0)⟩) ((zStep E (cy Y) ⟨.store 38 (.v 4) (.l 0), .none, none, false, 3, none⟩) k))))
  zRet)))), [.cell (.v 4) 38]⟩
theorem G46_ok (fn : Nat → Option Func) (pu : Nat → Bool) (pr : Nat → List AV → Option (Heap → Option (Eff × Acc))) : ZOk ⟨Tryz.tyT, fn, pu, pr⟩ npT F46 (G46 ⟨Tryz.tyT, fn, pu, pr⟩) := ⟨by kernel_rfl, by kernel_rfl, by kernel_rfl, fun cy Y k => by kernel_rfl⟩
noncomputable def F47 : FFn := cF LV 0 [0, 2] Tryz.f47
noncomputable def G47 (E : Env) : ZFn := ⟨9, [0, 2], fun cy Y fuel =>
  (zSeq (zReg fun k => (zV 1 (vMv (.k .nilptr))) k)
  (zSeq (zReg fun k => (zStep E (cy Y) ⟨.call 32 [(.v 0)], .push, none, false, 1, (some 0)⟩) ((zCall (cy Y) 72 [(.v 0)] .push) ((zStep E (cy Y) ⟨.build 168 [(0, (.l 1)), (1, (.l 0))], .push, none, false, 4, none⟩) ((zStep E (cy Y) ⟨.box 168 (.l 0), .push, none, false, 5, (some 2)⟩) ((zV 1 (vMv (.l 0))) k)))))
  zRet)), [.tmp (.v 1)]⟩
theorem G47_ok (fn : Nat → Option Func) (pu : Nat → Bool) (pr : Nat → List AV → Option (Heap → Option (Eff × Acc))) : ZOk ⟨Tryz.tyT, fn, pu, pr⟩ npT F47 (G47 ⟨Tryz.tyT, fn, pu, pr⟩) := ⟨by kernel_rfl, by kernel_rfl, by kernel_rfl, fun cy Y k => by kernel_rfl⟩
noncomputable def F48 : FFn := cF LV 0 [0, 1, 2, 3, 5, 4] Tryz.f48
noncomputable def G48 (E : Env) : ZFn := ⟨22, [0, 1, 2, 3, 5, 4], fun cy Y fuel =>
  (zSeq (zReg fun k => (zStep E (cy Y) ⟨.box 26 (.v 0), (.var 2), none, false, 0, (some 0)⟩) ((zStep E (cy Y) ⟨.box 26 (.v 1), (.var 3), none, false, 1, (some 1)⟩) ((zStep E (cy Y) ⟨.alloc 26, (.var 5), none, false, 2, (some 2)⟩) k)))
  (zSeq (zReg fun k => (zP (vFieldAddr 1 (.v 2))) ((zL 1 false (.l 0)) ((zP (vFieldAddr 1 (.v 3))) ((zL 1 false (.l 0)) ((zCall (cy Y) 96 [(.l 2), (.l 0), (.k (.clo 97 [])), (.k (.clo 98 []))] .push) ((zV 4 (vMv (.l 0))) k))))))
  (zSeq (zDreg 1 fun n0 k => (zPD (vFieldAddr 0 (.v 2))) ((zLD B7 1 1 false (.l 0)) ((zPD (vFieldAddr 0 (.v 3))) ((zLD B7 3 1 false (.l 0)) ((zCallD (cy Y) B7 4 101 [(.l 2), (.l 0), (.k (.clo 102 [])), (.k (.clo 103 []))] .push) ((zPD (vLenL (.v 4))) ((zStepD E (cy Y) B7 n0 ⟨.most false [(.l 0), (.k (.int .i64 40))], .push, none, false, 8, none⟩) ((zStepD E (cy Y) B7 n0 ⟨.slice 24 (.v 4) none (some (.l 0)) none, .push, none, false, 9, none⟩) ((zStepD E (cy Y) B7 n0 ⟨.build 26 [(0, (.l 3)), (1, (.l 0))], .push, none, false, 10, none⟩) ((zStepD E (cy Y) B7 n0 ⟨.store 26 (.v 5) (.l 0), .none, none, false, 11, none⟩) k))))))))))
  zRet))), [.cell (.v 5) 26]⟩
theorem G48_ok (fn : Nat → Option Func) (pu : Nat → Bool) (pr : Nat → List AV → Option (Heap → Option (Eff × Acc))) : ZOk ⟨Tryz.tyT, fn, pu, pr⟩ npT F48 (G48 ⟨Tryz.tyT, fn, pu, pr⟩) := ⟨by kernel_rfl, by kernel_rfl, by kernel_rfl, fun cy Y k => by kernel_rfl⟩
noncomputable def F49 : FFn := cF LV 0 [0, 4, 3, 2] Tryz.f49
noncomputable def G49 (E : Env) : ZFn := ⟨98, [0, 4, 3, 2], fun cy Y fuel =>
  (zSeq (zReg fun k => (zV 3 (vMv (.k (.sl 0 [] true)))) k)
  (zSeq (zSeq (zReg fun k => (zP (vNilCheck (.v 0))) ((zP (vFieldAddr 8 (.l 0))) ((zL 1 false (.l 0)) ((zP (vInt E fEql .eql 105 false true (.l 0) (.k .nilptr))) k))))
  (zCond (.l 0) (zSeq (zReg fun k => (zV 3 (vMv (.k (.sl 0 [] true)))) k)
  zRet) zSkip))
  (zSeq (zReg fun k => (zP (vNilCheck (.v 0))) ((zP (vFieldAddr 8 (.l 0))) ((zL 1 false (.l 0)) ((zP (vNilCheck (.l 0))) ((zP (vFieldAddr 8 (.l 0))) ((zL 1 false (.l 0)) ((zV 2 (vMv (.l 0))) k)))))))
  (zSeq (zReg fun k => (zP (vNilCheck (.v 0))) ((zP (vFieldAddr 8 (.l 0))) ((zL 1 false (.l 0)) ((zP (vNilCheck (.l 0))) ((zP (vFieldAddr 8 (.l 0))) ((zL 1 false (.l 0)) ((zP (vInt E fAdd .add 3 false true (.l 0) (.k (.int .i64 1)))) ((zP (vNilCheck (.l 4))) ((zP (vFieldAddr 8 (.l 0))) ((zStep E (cy Y) ⟨.store 3 (.l 0) (.l 2), .none, none, false, 10, none⟩) k))))))))))
  (zSeq (zDreg 1 fun n0 k => (zPD (vNilCheck (.v 0))) ((zPD (vFieldAddr 2 (.l 0))) ((zLD B8 3 2 true (.l 0)) ((zPD (vNilCheck (.v 0))) ((zPD (vFieldAddr 8 (.l 0))) ((zLD B8 7 1 false (.l 0)) ((zPD (vNilCheck (.l 0))) ((zPD (vFieldAddr 2 (.l 0))) ((zLD B8 10 1 false (.l 0)) ((zStepD E (cy Y) B8 n0 ⟨.call 104 [(.l 6), (.l 0)], .push, none, false, 11, (some 0)⟩) ((zVD 1 (vMv (.l 0))) k)))))))))))
  (zSeq (zSeq (zReg fun k => (zP (vLenL (.v 1))) ((zP (vInt E fEql .eql 3 false true (.l 0) (.k (.int .i64 0)))) k))
  (zCond (.l 0) (zSeq (zDreg 1 fun n0 k => (zPD (vNilCheck (.v 0))) ((zPD (vFieldAddr 0 (.l 0))) ((zLD B5 3 1 false (.l 0)) ((zPD (vInt E (fGen .rem) .rem 3 false true (.v 2) (.k (.int .i64 4)))) ((zPD (vNilCheck (.v 0))) ((zPD (vFieldAddr 8 (.l 0))) ((zLD B5 9 1 false (.l 0)) ((zPD (vNilCheck (.l 0))) ((zPD (vFieldAddr 1 (.l 0))) ((zLD B5 12 1 false (.l 0)) ((zStepD E (cy Y) B5 n0 ⟨.build 42 [(0, (.k (.int .i64 10))), (1, (.l 7)), (2, (.l 6)), (3, (.l 0))], .push, none, false, 13, none⟩) ((zStepD E (cy Y) B5 n0 ⟨.buildSlice 44 1 [(0, (.l 0))], .push, none, false, 14, (some 0)⟩) ((zVD 3 (vMv (.l 0))) k)))))))))))))
  zRet) zSkip))
  (zSeq (zDreg 1 fun n0 k => (zPD (vNilCheck (.v 0))) ((zPD (vFieldAddr 8 (.l 0))) ((zLD B9 3 1 false (.l 0)) ((zPD (vNilCheck (.l 0))) ((zPD (vFieldAddr 0 (.l 0))) ((zLD B9 6 1 false (.l 0)) ((zPD (vNilCheck (.v 0))) ((zPD (vFieldAddr 0 (.l 0))) ((zLD B9 10 1 false (.l 0)) ((zPD (vLenL (.v 1))) ((zPD (vInt E (fGen .rem) .rem 3 false false (.v 2) (.l 0))) ((zPD (vIndexAddr 1 (.v 1) (.l 0))) ((zLD B9 17 1 false (.l 0)) ((zPD (vNilCheck (.v 0))) ((zPD (vFieldAddr 8 (.l 0))) ((zLD B9 21 1 false (.l 0)) ((zPD (vNilCheck (.l 0))) ((zPD (vFieldAddr 1 (.l 0))) ((zLD B9 24 1 false (.l 0)) ((zPD (vNilCheck (.v 0))) ((zPD (vFieldAddr 8 (.l 0))) ((zLD B9 28 1 false (.l 0)) ((zPD (vNilCheck (.l 0))) ((zPD (vFieldAddr 2 (.l 0))) ((zLD B9 31 1 false (.l 0)) ((zPD (vNilCheck (.v 0))) ((zPD (vFieldAddr 8 (.l 0))) ((zLD B9 35 1 false (.l 0)) ((zPD (vNilCheck (.l 0))) ((zPD (vFieldAddr 3 (.l 0))) ((zLD B9 38 5 true (.l 0)) ((zStepD E (cy Y) B9 n0 ⟨.build 42 [(0, (.l 25)), (1, (.l 22)), (2, (.l 18)), (3, (.l 12)), (5, (.l 6)), (6, (.l 0))], .push, none, false, 39, none⟩) ((zStepD E (cy Y) B9 n0 ⟨.buildSlice 44 1 [(0, (.l 0))], .push, none, false, 40, (some 0)⟩) ((zVD 3 (vMv (.l 0))) k))))))))))))))))))))))))))))))))))
  zRet))))))), [.tmp (.v 3)]⟩
theorem G49_ok (fn : Nat → Option Func) (pu : Nat → Bool) (pr : Nat → List AV → Option (Heap → Option (Eff × Acc))) : ZOk ⟨Tryz.tyT, fn, pu, pr⟩ npT F49 (G49 ⟨Tryz.tyT, fn, pu, pr⟩) := ⟨by kernel_rfl, by kernel_rfl, by kernel_rfl, fun cy Y k => by kernel_rfl⟩
noncomputable def F50 : FFn := cF LV 0 [0, 1, 2, 6] Tryz.f50
noncomputable def G50 (E : Env) : ZFn := ⟨10, [0, 1, 2, 6], fun cy Y fuel =>
  (zSeq (zReg fun k => (zV 3 (vMv (.k (.int .i64 0)))) k)
  (zSeq (zSeq (zReg fun k => k)
  (zCond (.v 0) (zSeq (zReg fun k => (zV 3 (vMv (.v 1))) k)
  zRet) zSkip))
  (zSeq (zReg fun k => (zV 3 (vMv (.v 2))) k)
  zRet))), [.tmp (.v 3)]⟩
theorem G50_ok (fn : Nat → Option Func) (pu : Nat → Bool) (pr : Nat → List AV → Option (Heap → Option (Eff × Acc))) : ZOk ⟨Tryz.tyT, fn, pu, pr⟩ npT F50 (G50 ⟨Tryz.tyT, fn, pu, pr⟩) := ⟨by kernel_rfl, by kernel_rfl, by kernel_rfl, fun cy Y k => by kernel_rfl⟩
noncomputable def F51 : FFn := cF LV 0 [3, 0, 8, 1, 2, 7, 39, 60] Tryz.f51
noncomputable def G51 (E : Env) : ZFn := ⟨73, [3, 0, 8, 1, 2, 7, 39, 60], fun cy Y fuel =>
  (zSeq (zReg fun k => (zStep E (cy Y) ⟨.box 38 (.v 0), (.var 5), none, false, 0, (some 0)⟩) k)
  (zSeq (zDreg 0 fun n0 k => (zPD (vNilCheck (.v 1))) ((zPD (vFieldAddr 6 (.l 0))) ((zLD B10 3 1 false (.l 0)) ((zPD (vNilCheck (.v 1))) ((zPD (vFieldAddr 6 (.l 0))) ((zLD B10 7 1 false (.l 0)) ((zPD (vLenL (.l 0))) ((zPD (vInt E fSub .sub 3 false true (.l 0) (.k (.int .i64 1)))) ((zPD (vIndexAddr 18 (.l 5) (.l 0))) ((zVD 2 (vMv (.l 0))) k))))))))))
  (zSeq (zDreg 0 fun n0 k => (zLD B11 5 5 true (.v 5)) ((zPD (vNilCheck (.v 2))) ((zPD (vFieldAddr 10 (.l 0))) ((zStepD E (cy Y) B11 n0 ⟨.store 3 (.l 0) (.v 3), .none, none, false, 8, none⟩) ((zPD (vNilCheck (.v 2))) ((zPD (vFieldAddr 11 (.l 0))) ((zStepD E (cy Y) B11 n0 ⟨.store 3 (.l 0) (.v 4), .none, none, false, 11, none⟩) ((zPD (vNilCheck (.v 2))) ((zPD (vFieldAddr 12 (.l 0))) ((zStepD E (cy Y) B11 n0 ⟨.store 38 (.l 0) (.l 6), .none, none, false, 14, none⟩) k))))))))))
  (zSeq (zReg fun k => (zP (vNilCheck (.v 1))) ((zP (vFieldAddr 8 (.l 0))) ((zStep E (cy Y) ⟨.store 105 (.l 0) (.k .nilptr), .none, none, false, 3, none⟩) k)))
  (zSeq (zReg fun k => (zP (vNilCheck (.v 2))) ((zP (vFieldAddr 2 (.l 0))) ((zP (vFieldAddr 0 (.l 0))) ((zDstW (.var 6) (wLoad 1 false (.l 0))) k))))
  (zBlock 0 (zSeq (zReg fun k => (zP (vInt E fEql .eql 3 false true (.v 6) (.k (.int .i64 2)))) ((zP (vMv (.l 0))) k))
  (zCond (.l 0) (zSeq (zReg fun k => (zP (vNilCheck (.v 1))) ((zP (vFieldAddr 10 (.l 0))) ((zL 1 false (.l 0)) ((zG (.l 0) true .push (zP (vMv (.v 4)))) ((zG (.l 1) true .push (zP (vInt E fEql .eql 3 false true (.l 0) (.k (.int .i64 0))))) ((zP (vPick (.l 2) (.l 0) (.k (.bool false)))) k))))))
  (zCond (.l 0) (zDreg 0 fun n0 k => (zPD (vNilCheck (.v 1))) ((zPD (vFieldAddr 12 (.l 0))) ((zLD B12 3 1 false (.l 0)) ((zPD (vNilCheck (.v 2))) ((zPD (vFieldAddr 2 (.l 0))) ((zPD (vFieldAddr 1 (.l 0))) ((zLD B12 8 1 false (.l 0)) ((zLD B12 9 5 true (.v 5)) ((zStepD E (cy Y) B12 n0 ⟨.mapUp 87 (.l 5) (.l 1) (.l 0), .none, none, false, 10, none⟩) k))))))))) zSkip)) (zSeq (zSeq (zReg fun k => (zP (vInt E fEql .eql 3 false true (.v 6) (.k (.int .i64 4)))) ((zV 7 (vMv (.l 0))) k))
  (zCond (.v 7) zSkip (zReg fun k => (zP (vInt E fEql .eql 3 false true (.v 6) (.k (.int .i64 5)))) ((zV 7 (vMv (.l 0))) k))))
  (zCond (.v 7) (zSeq (zReg fun k => (zP (vNilCheck (.v 1))) ((zP (vFieldAddr 10 (.l 0))) ((zStep E (cy Y) ⟨.store 4 (.l 0) (.k (.bool false)), .none, none, false, 4, none⟩) ((zP (vNilCheck (.v 1))) ((zP (vFieldAddr 12 (.l 0))) ((zStep E (cy Y) ⟨.store 87 (.l 0) (.k .nilmap), .none, none, false, 7, none⟩) k))))))
  (zReg fun k => (zP (vNilCheck (.v 1))) ((zP (vFieldAddr 11 (.l 0))) ((zP (vFieldAddr 0 (.l 0))) ((zStep E (cy Y) ⟨.store 39 (.l 0) (.k (.sl 0 [] true)), .none, none, false, 4, none⟩) k))))) zSkip)))))))))), []⟩
theorem G51_ok (fn : Nat → Option Func) (pu : Nat → Bool) (pr : Nat → List AV → Option (Heap → Option (Eff × Acc))) : ZOk ⟨Tryz.tyT, fn, pu, pr⟩ npT F51 (G51 ⟨Tryz.tyT, fn, pu, pr⟩) := ⟨by kernel_rfl, by kernel_rfl, by kernel_rfl, fun cy Y k => by kernel_rfl⟩
noncomputable def F52 : FFn := cF LV 0 [0, 1, 3, 4, 7, 2, 6, 8, 10, 12] Tryz.f52
noncomputable def G52 (E : Env) : ZFn := ⟨80, [0, 1, 3, 4, 7, 2, 6, 8, 10, 12], fun cy Y fuel =>
  (zSeq (zReg fun k => (zStep E (cy Y) ⟨.box 51 (.v 0), (.var 2), none, false, 0, (some 0)⟩) ((zStep E (cy Y) ⟨.box 42 (.v 1), (.var 3), none, false, 1, (some 1)⟩) ((zStep E (cy Y) ⟨.alloc 44, (.var 6), none, false, 2, (some 2)⟩) k)))
  (zSeq (zSeq (zDreg 1 fun n0 k => (zLD B13 0 1 false (.v 2)) ((zPD (vNilCheck (.l 0))) ((zPD (vFieldAddr 4 (.l 0))) ((zLD B13 3 1 false (.l 0)) ((zPD (vFieldAddr 5 (.v 3))) ((zLD B13 5 1 false (.l 0)) ((zPD (vFieldAddr 6 (.v 3))) ((zLD B13 7 5 true (.l 0)) ((zCallD (cy Y) B13 8 105 [(.l 4), (.l 2), (.l 0)] .push) ((zVD 4 (vMv (.l 0))) k))))))))))
  (zSeq (zReg fun k => (zP (vInt E fNeq .neq 55 false true (.v 4) (.k .nilIface))) k)
  (zCond (.l 0) (zSeq (zDreg 2 fun n0 k => (zLD B14 0 1 false (.v 2)) ((zCallD (cy Y) B14 3 106 [(.v 4)] .push) ((zStepD E (cy Y) B14 n0 ⟨.build 38 [], .push, none, false, 4, none⟩) ((zCallD (cy Y) B14 5 51 [(.l 2), (.v 5), (.l 1), (.l 0)] .push) k))))
  (zSeq (zReg fun k => (zStep E (cy Y) ⟨.store 44 (.v 6) (.k (.sl 0 [] true)), .none, none, false, 0, none⟩) k)
  zRet)) zSkip)))
  (zSeq (zDreg 0 fun n0 k => (zLD B15 0 1 false (.v 2)) ((zPD (vNilCheck (.l 0))) ((zPD (vFieldAddr 6 (.l 0))) ((zLD B15 3 1 false (.l 0)) ((zLD B15 4 1 false (.v 2)) ((zPD (vNilCheck (.l 0))) ((zPD (vFieldAddr 6 (.l 0))) ((zLD B15 7 1 false (.l 0)) ((zPD (vLenL (.l 0))) ((zPD (vInt E fSub .sub 3 false true (.l 0) (.k (.int .i64 1)))) ((zPD (vIndexAddr 18 (.l 6) (.l 0))) ((zPD (vFieldAddr 2 (.l 0))) ((zPD (vFieldAddr 1 (.l 0))) ((zLD B15 13 1 false (.l 0)) ((zVD 7 (vMv (.l 0))) k)))))))))))))))
  (zSeq (zSeq (zReg fun k => (zL 1 false (.v 2)) ((zP (vNilCheck (.l 0))) ((zP (vFieldAddr 4 (.l 0))) ((zL 1 false (.l 0)) ((zCall (cy Y) 108 [(.l 0), (.v 7)] .push) ((zCall (cy Y) 107 [(.l 0)] .push) k))))))
  (zBlock 0 (zRange cy Y (.l 0) 0 [none, (some (.v 2)), none, (some (.v 6))] [none, none, none, (some (.v 2)), none, none, (some (.v 6)), none, none, none, none, none, none, none, none, none, none, none, none, none, none, none, none, none, none, none, none, none, none, none, none, none, none, none, none, none, none, none, none, none, none, none, none, none, none, none, none, none, none, none, none, none, none, none, none, none, none, none, none, none, none, none, none, none, none, none, none, none, none, none, none, none, none, none, none, none, none, none, none, none] [52] (codeAt [1, 1, 1, 0, 1, 0, 0] (bodyOf Tryz.f52)) (codeAt [1, 1, 1, 0, 1, 0, 1] (bodyOf Tryz.f52)))))
  (zSeq (zReg fun k => (zL 1 false (.v 2)) ((zCall (cy Y) 110 [(.l 0), (.v 7)] .push) ((zP (vExtract 0 (.l 0))) ((zP (vExtract 1 (.l 1))) ((zStep E (cy Y) ⟨.alloc 83, (.var 8), none, false, 6, (some 1)⟩) ((zStep E (cy Y) ⟨.store 83 (.v 8) (.l 1), .none, none, false, 7, none⟩) ((zP (vMv (.l 0))) k)))))))
  (zSeq (zDreg 4 fun n0 k => (zPD (vFieldAddr 2 (.v 8))) ((zLD B16 1 2 true (.l 0)) ((zLD B16 2 1 false (.v 2)) ((zPD (vNilCheck (.l 0))) ((zPD (vFieldAddr 4 (.l 0))) ((zLD B16 5 1 false (.l 0)) ((zCallD (cy Y) B16 7 112 [(.l 0), (.v 7)] .push) ((zStepD E (cy Y) B16 n0 ⟨.buildSlice 36 1 [(0, (.l 0))], .push, none, false, 8, (some 1)⟩) ((zCallD (cy Y) B16 9 111 [(.l 6), (.l 0)] .push) ((zPD (vExtract 0 (.l 0))) ((zPD (vExtract 1 (.l 1))) ((zStepD E (cy Y) B16 n0 ⟨.alloc 38, (.var 9), none, false, 13, (some 3)⟩) ((zStepD E (cy Y) B16 n0 ⟨.store 38 (.v 9) (.l 1), .none, none, false, 14, none⟩) ((zPD (vMv (.l 0))) k))))))))))))))
  (zSeq (zReg fun k => (zL 1 false (.v 2)) ((zL 5 true (.v 9)) ((zCall (cy Y) 51 [(.l 1), (.v 5), (.k (.int .i64 0)), (.l 0)] .push) k)))
  (zSeq (zReg fun k => (zStep E (cy Y) ⟨.store 44 (.v 6) (.k (.sl 0 [] true)), .none, none, false, 0, none⟩) k)
  zRet)))))))), [.cell (.v 6) 44]⟩
theorem G52_ok (fn : Nat → Option Func) (pu : Nat → Bool) (pr : Nat → List AV → Option (Heap → Option (Eff × Acc))) : ZOk ⟨Tryz.tyT, fn, pu, pr⟩ npT F52 (G52 ⟨Tryz.tyT, fn, pu, pr⟩) := ⟨by kernel_rfl, by kernel_rfl, by kernel_rfl, fun cy Y k => by kernel_rfl⟩
noncomputable def F53 : FFn := cF LV 0 [0, 6, 1, 5, 8, 7, 4] Tryz.f53
noncomputable def G53 (E : Env) : ZFn := ⟨44, [0, 6, 1, 5, 8, 7, 4], fun cy Y fuel =>
  (zSeq (zReg fun k => (zV 6 (vMv (.k (.sl 0 [] true)))) k)
  (zSeq (zReg fun k => (zP (vNilCheck (.v 0))) ((zP (vFieldAddr 11 (.l 0))) ((zCall (cy Y) 113 [(.l 0)] .push) ((zP (vExtract 0 (.l 0))) ((zP (vExtract 1 (.l 1))) ((zStep E (cy Y) ⟨.alloc 122, (.var 3), none, false, 7, (some 1)⟩) ((zStep E (cy Y) ⟨.store 122 (.v 3) (.l 1), .none, none, false, 8, none⟩) ((zV 1 (vMv (.l 0))) k))))))))
  (zSeq (zSeq (zReg fun k => (zP (vNot (.v 1))) k)
  (zCond (.l 0) (zSeq (zReg fun k => (zStep E (cy Y) ⟨.build 38 [], .push, none, false, 2, none⟩) ((zCall (cy Y) 51 [(.v 0), (.v 2), (.k (.int .i64 0)), (.l 0)] .push) k))
  (zSeq (zReg fun k => (zV 6 (vMv (.k (.sl 0 [] true)))) k)
  zRet)) zSkip))
  (zSeq (zReg fun k => (zP (vFieldAddr 0 (.v 3))) ((zL 1 false (.l 0)) ((zP (vFieldAddr 1 (.v 3))) ((zL 5 true (.l 0)) ((zCall (cy Y) 114 [(.v 0), (.l 2), (.l 0)] .push) ((zP (vExtract 0 (.l 0))) ((zP (vExtract 1 (.l 1))) ((zStep E (cy Y) ⟨.alloc 38, (.var 5), none, false, 9, (some 1)⟩) ((zStep E (cy Y) ⟨.store 38 (.v 5) (.l 1), .none, none, false, 10, none⟩) ((zV 4 (vMv (.l 0))) k))))))))))
  (zSeq (zSeq (zReg fun k => (zP (vInt E fNeq .neq 55 false true (.v 4) (.k .nilIface))) k)
  (zCond (.l 0) (zSeq (zReg fun k => (zCall (cy Y) 106 [(.v 4)] .push) ((zStep E (cy Y) ⟨.build 38 [], .push, none, false, 4, none⟩) ((zCall (cy Y) 51 [(.v 0), (.v 2), (.l 1), (.l 0)] .push) k)))
  (zSeq (zReg fun k => (zV 6 (vMv (.k (.sl 0 [] true)))) k)
  zRet)) zSkip))
  (zSeq (zReg fun k => (zP (vFieldAddr 0 (.v 3))) ((zL 1 false (.l 0)) ((zL 5 true (.v 5)) ((zCall (cy Y) 109 [(.v 0), (.k (.int .i64 1)), (.l 1), (.l 0)] .push) ((zV 6 (vMv (.l 0))) k)))))
  zRet)))))), [.tmp (.v 6)]⟩
theorem G53_ok (fn : Nat → Option Func) (pu : Nat → Bool) (pr : Nat → List AV → Option (Heap → Option (Eff × Acc))) : ZOk ⟨Tryz.tyT, fn, pu, pr⟩ npT F53 (G53 ⟨Tryz.tyT, fn, pu, pr⟩) := ⟨by kernel_rfl, by kernel_rfl, by kernel_rfl, fun cy Y k => by kernel_rfl⟩
noncomputable def F54 : FFn := cF LV 0 [1, 0, 3, 6, 37, 4] Tryz.f54
noncomputable def G54 (E : Env) : ZFn := ⟨58, [1, 0, 3, 6, 37, 4], fun cy Y fuel =>
  (zSeq (zReg fun k => (zStep E (cy Y) ⟨.box 59 (.v 0), (.var 2), none, false, 0, (some 0)⟩) ((zV 5 (vMv (.k .nilIface))) k))
  (zSeq (zReg fun k => (zP (vFieldAddr 1 (.v 2))) ((zL 1 false (.l 0)) ((zCall (cy Y) 110 [(.v 1), (.l 0)] .push) ((zP (vExtract 0 (.l 0))) ((zP (vExtract 1 (.l 1))) ((zStep E (cy Y) ⟨.alloc 83, .push, none, false, 7, (some 1)⟩) ((zStep E (cy Y) ⟨.store 83 (.l 0) (.l 2), .none, none, false, 8, none⟩) ((zV 3 (vMv (.l 1))) k))))))))
  (zSeq (zBlock 0 (zSeq (zReg fun k => (zCall (cy Y) 20 [(.v 1)] .push) ((zP (vMv (.l 0))) k))
  (zCond (.l 0) (zSeq (zReg fun k => (zStep E (cy Y) ⟨.mkIface 66 (.k (.int .i64 17)), .push, none, false, 0, none⟩) ((zV 5 (vMv (.l 0))) k))
  zRet) (zSeq (zReg fun k => (zP (vFieldAddr 0 (.v 2))) ((zL 1 false (.l 0)) ((zP (vInt E fLss .lss 3 false true (.l 0) (.k (.int .i64 1)))) ((zG (.l 0) false .push (zP (vFieldAddr 0 (.v 2)))) ((zG (.l 1) false .push (zL 1 false (.l 0))) ((zG (.l 2) false .push (zP (vInt E fGtr .gtr 3 false true (.l 0) (.k (.int .i64 5))))) ((zP (vPick (.l 3) (.k (.bool true)) (.l 0))) ((zG (.l 0) false .push (zP (vFieldAddr 0 (.v 2)))) ((zG (.l 1) false .push (zL 1 false (.l 0))) ((zG (.l 2) false .push (zP (vInt E (fGen .leq) .leq 3 false true (.l 0) (.k (.int .i64 2))))) ((zG (.l 3) false .push (zP (vMv (.l 0)))) ((zG (.l 0) true .push (zP (vMv (.v 3)))) ((zG (.l 1) true .push (zP (vNot (.l 0)))) ((zG (.l 6) false .push (zP (vPick (.l 2) (.l 0) (.k (.bool false))))) ((zP (vPick (.l 7) (.k (.bool true)) (.l 0))) ((zP (vMv (.l 0))) k))))))))))))))))
  (zCond (.l 0) (zSeq (zReg fun k => (zStep E (cy Y) ⟨.mkIface 66 (.k (.int .i64 10)), .push, none, false, 0, none⟩) ((zV 5 (vMv (.l 0))) k))
  zRet) (zSeq (zSeq (zReg fun k => (zP (vFieldAddr 0 (.v 2))) ((zL 1 false (.l 0)) ((zP (vInt E fEql .eql 3 false true (.l 0) (.k (.int .i64 3)))) ((zG (.l 0) true .push (zP (vMv (.v 1)))) ((zG (.l 1) true .push (zP (vNilCheck (.l 0)))) ((zG (.l 2) true .push (zP (vFieldAddr 10 (.l 0)))) ((zG (.l 3) true .push (zL 1 false (.l 0))) ((zP (vPick (.l 4) (.l 0) (.k (.bool false)))) ((zV 4 (vMv (.l 0))) k)))))))))
  (zCond (.v 4) zSkip (zReg fun k => (zP (vFieldAddr 0 (.v 2))) ((zL 1 false (.l 0)) ((zP (vInt E fGtr .gtr 3 false true (.l 0) (.k (.int .i64 3)))) ((zG (.l 0) true .push (zP (vMv (.v 1)))) ((zG (.l 1) true .push (zP (vNilCheck (.l 0)))) ((zG (.l 2) true .push (zP (vFieldAddr 10 (.l 0)))) ((zG (.l 3) true .push (zL 1 false (.l 0))) ((zG (.l 4) true .push (zP (vNot (.l 0)))) ((zP (vPick (.l 5) (.l 0) (.k (.bool false)))) ((zV 4 (vMv (.l 0))) k))))))))))))
  (zCond (.v 4) (zSeq (zReg fun k => (zStep E (cy Y) ⟨.mkIface 66 (.k (.int .i64 20)), .push, none, false, 0, none⟩) ((zV 5 (vMv (.l 0))) k))
  zRet) zSkip)))))))
  (zSeq (zReg fun k => (zV 5 (vMv (.k .nilIface))) k)
  zRet)))), [.tmp (.v 5)]⟩
theorem G54_ok (fn : Nat → Option Func) (pu : Nat → Bool) (pr : Nat → List AV → Option (Heap → Option (Eff × Acc))) : ZOk ⟨Tryz.tyT, fn, pu, pr⟩ npT F54 (G54 ⟨Tryz.tyT, fn, pu, pr⟩) := ⟨by kernel_rfl, by kernel_rfl, by kernel_rfl, fun cy Y k => by kernel_rfl⟩
noncomputable def F55 : FFn := cF LV 0 [1, 0, 4, 8, 2, 10, 9, 6, 7] Tryz.f55
noncomputable def G55 (E : Env) : ZFn := ⟨69, [1, 0, 4, 8, 2, 10, 9, 6, 7], fun cy Y fuel =>
  (zSeq (zReg fun k => (zStep E (cy Y) ⟨.box 59 (.v 0), (.var 2), none, false, 0, (some 0)⟩) ((zV 7 (vMv (.k (.sl 0 [] true)))) ((zV 8 (vMv (.k .nilIface))) k)))
  (zSeq (zSeq (zReg fun k => (zP (vNilCheck (.v 1))) ((zP (vFieldAddr 10 (.l 0))) ((zL 1 false (.l 0)) k)))
  (zCond (.l 0) (zSeq (zSeq (zReg fun k => (zP (vFieldAddr 1 (.v 2))) ((zL 1 false (.l 0)) ((zP (vFieldAddr 2 (.v 2))) ((zL 5 true (.l 0)) ((zCall (cy Y) 115 [(.v 1), (.l 2), (.l 0)] .push) ((zV 3 (vMv (.l 0))) k))))))
  (zSeq (zReg fun k => (zP (vInt E fNeq .neq 55 false true (.v 3) (.k .nilIface))) k)
  (zCond (.l 0) (zSeq (zReg fun k => (zV 7 (vMv (.k (.sl 0 [] true)))) ((zV 8 (vMv (.v 3))) k))
  zRet) zSkip)))
  (zSeq (zDreg 2 fun n0 k => (zPD (vNilCheck (.v 1))) ((zPD (vFieldAddr 11 (.l 0))) ((zPD (vFieldAddr 0 (.l 0))) ((zLD B17 5 1 false (.l 0)) ((zPD (vFieldAddr 1 (.v 2))) ((zLD B17 7 1 false (.l 0)) ((zPD (vFieldAddr 2 (.v 2))) ((zLD B17 9 5 true (.l 0)) ((zStepD E (cy Y) B17 n0 ⟨.build 122 [(0, (.l 2)), (1, (.l 0))], .push, none, false, 10, none⟩) ((zStepD E (cy Y) B17 n0 ⟨.buildSlice 39 1 [(0, (.l 0))], .push, none, false, 11, (some 0)⟩) ((zStepD E (cy Y) B17 n0 ⟨.append 39 39 (.l 6) (.l 0), .push, none, false, 12, (some 1)⟩) ((zPD (vNilCheck (.v 1))) ((zPD (vFieldAddr 11 (.l 0))) ((zPD (vFieldAddr 0 (.l 0))) ((zStepD E (cy Y) B17 n0 ⟨.store 39 (.l 0) (.l 3), .none, none, false, 16, none⟩) k)))))))))))))))
  (zSeq (zReg fun k => (zL 7 true (.v 2)) ((zCall (cy Y) 57 [(.v 1), (.l 0), (.v 4)] .push) k))
  (zSeq (zReg fun k => (zStep E (cy Y) ⟨.build 38 [], .push, none, false, 2, none⟩) ((zCall (cy Y) 51 [(.v 1), (.v 4), (.k (.int .i64 0)), (.l 0)] .push) k))
  (zSeq (zReg fun k => (zV 7 (vMv (.k (.sl 0 [] true)))) ((zV 8 (vMv (.k .nilIface))) k))
  zRet))))) zSkip))
  (zSeq (zReg fun k => (zP (vFieldAddr 1 (.v 2))) ((zL 1 false (.l 0)) ((zP (vFieldAddr 2 (.v 2))) ((zL 5 true (.l 0)) ((zCall (cy Y) 114 [(.v 1), (.l 2), (.l 0)] .push) ((zP (vExtract 0 (.l 0))) ((zP (vExtract 1 (.l 1))) ((zStep E (cy Y) ⟨.alloc 38, (.var 6), none, false, 9, (some 1)⟩) ((zStep E (cy Y) ⟨.store 38 (.v 6) (.l 1), .none, none, false, 10, none⟩) ((zV 5 (vMv (.l 0))) k))))))))))
  (zSeq (zSeq (zReg fun k => (zP (vInt E fNeq .neq 55 false true (.v 5) (.k .nilIface))) k)
  (zCond (.l 0) (zSeq (zReg fun k => (zV 7 (vMv (.k (.sl 0 [] true)))) ((zV 8 (vMv (.v 5))) k))
  zRet) zSkip))
  (zSeq (zReg fun k => (zL 7 true (.v 2)) ((zCall (cy Y) 57 [(.v 1), (.l 0), (.v 4)] .push) k))
  (zSeq (zReg fun k => (zP (vFieldAddr 1 (.v 2))) ((zL 1 false (.l 0)) ((zL 5 true (.v 6)) ((zCall (cy Y) 109 [(.v 1), (.k (.int .i64 1)), (.l 1), (.l 0)] .push) ((zV 7 (vMv (.l 0))) ((zV 8 (vMv (.k .nilIface))) k))))))
  zRet)))))), [.tmp (.v 7), .tmp (.v 8)]⟩
theorem G55_ok (fn : Nat → Option Func) (pu : Nat → Bool) (pr : Nat → List AV → Option (Heap → Option (Eff × Acc))) : ZOk ⟨Tryz.tyT, fn, pu, pr⟩ npT F55 (G55 ⟨Tryz.tyT, fn, pu, pr⟩) := ⟨by kernel_rfl, by kernel_rfl, by kernel_rfl, fun cy Y k => by kernel_rfl⟩
noncomputable def F56 : FFn := cF LV 0 [1, 0, 4, 2, 8, 7, 6] Tryz.f56
noncomputable def G56 (E : Env) : ZFn := ⟨39, [1, 0, 4, 2, 8, 7, 6], fun cy Y fuel =>
  (zSeq (zReg fun k => (zStep E (cy Y) ⟨.box 59 (.v 0), (.var 2), none, false, 0, (some 0)⟩) ((zV 6 (vMv (.k (.sl 0 [] true)))) k))
  (zSeq (zReg fun k => (zL 7 true (.v 2)) ((zCall (cy Y) 57 [(.v 1), (.l 0), (.v 3)] .push) k))
  (zSeq (zSeq (zDreg 1 fun n0 k => (zPD (vNilCheck (.v 1))) ((zPD (vFieldAddr 12 (.l 0))) ((zLD B18 3 1 false (.l 0)) ((zPD (vFieldAddr 1 (.v 2))) ((zLD B18 5 1 false (.l 0)) ((zStepD E (cy Y) B18 n0 ⟨.lookup 87 (.l 2) (.l 0) true, .push, none, false, 6, none⟩) ((zPD (vExtract 0 (.l 0))) ((zPD (vExtract 1 (.l 1))) ((zStepD E (cy Y) B18 n0 ⟨.alloc 38, (.var 5), none, false, 10, (some 0)⟩) ((zStepD E (cy Y) B18 n0 ⟨.store 38 (.v 5) (.l 1), .none, none, false, 11, none⟩) ((zVD 4 (vMv (.l 0))) k)))))))))))
  (zSeq (zReg fun k => (zG (.v 4) true .push (zP (vMv (.v 1)))) ((zG (.v 4) true .push (zP (vNilCheck (.l 0)))) ((zG (.v 4) true .push (zP (vFieldAddr 10 (.l 0)))) ((zG (.v 4) true .push (zL 1 false (.l 0))) ((zP (vPick (.v 4) (.l 0) (.k (.bool false)))) k)))))
  (zCond (.l 0) (zSeq (zReg fun k => (zL 5 true (.v 5)) ((zCall (cy Y) 51 [(.v 1), (.v 3), (.k (.int .i64 0)), (.l 0)] .push) k))
  (zSeq (zReg fun k => (zV 6 (vMv (.k (.sl 0 [] true)))) k)
  zRet)) zSkip)))
  (zSeq (zReg fun k => (zP (vFieldAddr 1 (.v 2))) ((zL 1 false (.l 0)) ((zStep E (cy Y) ⟨.build 38 [], .push, none, false, 3, none⟩) ((zCall (cy Y) 109 [(.v 1), (.k (.int .i64 3)), (.l 1), (.l 0)] .push) ((zV 6 (vMv (.l 0))) k)))))
  zRet)))), [.tmp (.v 6)]⟩
theorem G56_ok (fn : Nat → Option Func) (pu : Nat → Bool) (pr : Nat → List AV → Option (Heap → Option (Eff × Acc))) : ZOk ⟨Tryz.tyT, fn, pu, pr⟩ npT F56 (G56 ⟨Tryz.tyT, fn, pu, pr⟩) := ⟨by kernel_rfl, by kernel_rfl, by kernel_rfl, fun cy Y k => by kernel_rfl⟩
noncomputable def F57 : FFn := cF LV 0 [1, 0, 4, 2, 6] Tryz.f57
noncomputable def G57 (E : Env) : ZFn := ⟨39, [1, 0, 4, 2, 6], fun cy Y fuel =>
  (zSeq (zReg fun k => (zStep E (cy Y) ⟨.box 59 (.v 0), (.var 2), none, false, 0, (some 0)⟩) k)
  (zSeq (zDreg 1 fun n0 k => (zPD (vNilCheck (.v 1))) ((zPD (vFieldAddr 0 (.l 0))) ((zLD B19 3 1 false (.l 0)) ((zPD (vNilCheck (.v 1))) ((zPD (vFieldAddr 6 (.l 0))) ((zLD B19 7 1 false (.l 0)) ((zPD (vLenL (.l 0))) ((zPD (vInt E fAdd .add 3 false true (.l 0) (.k (.int .i64 1)))) ((zLD B19 10 7 true (.v 2)) ((zStepD E (cy Y) B19 n0 ⟨.build 63 [(0, (.l 6)), (1, (.l 1)), (2, (.l 0)), (3, (.v 3))], .push, none, false, 12, none⟩) ((zStepD E (cy Y) B19 n0 ⟨.alloc 63, (.var 4), none, false, 13, (some 0)⟩) ((zStepD E (cy Y) B19 n0 ⟨.store 63 (.v 4) (.l 0), .none, none, false, 14, none⟩) k))))))))))))
  (zSeq (zSeq (zReg fun k => (zP (vNilCheck (.v 1))) ((zP (vFieldAddr 10 (.l 0))) ((zL 1 false (.l 0)) k)))
  (zCond (.l 0) (zReg fun k => (zP (vNilCheck (.v 1))) ((zP (vFieldAddr 9 (.l 0))) ((zL 1 false (.l 0)) ((zP (vFieldAddr 17 (.v 4))) ((zStep E (cy Y) ⟨.store 3 (.l 0) (.l 1), .none, none, false, 5, none⟩) k))))) zSkip))
  (zDreg 2 fun n0 k => (zPD (vNilCheck (.v 1))) ((zPD (vFieldAddr 6 (.l 0))) ((zLD B2 4 1 false (.l 0)) ((zLD B2 5 18 true (.v 4)) ((zStepD E (cy Y) B2 n0 ⟨.buildSlice 60 1 [(0, (.l 0))], .push, none, false, 6, (some 0)⟩) ((zStepD E (cy Y) B2 n0 ⟨.append 60 60 (.l 2) (.l 0), .push, none, false, 7, (some 1)⟩) ((zPD (vNilCheck (.v 1))) ((zPD (vFieldAddr 6 (.l 0))) ((zStepD E (cy Y) B2 n0 ⟨.store 60 (.l 0) (.l 2), .none, none, false, 10, none⟩) k)))))))))))), []⟩
theorem G57_ok (fn : Nat → Option Func) (pu : Nat → Bool) (pr : Nat → List AV → Option (Heap → Option (Eff × Acc))) : ZOk ⟨Tryz.tyT, fn, pu, pr⟩ npT F57 (G57 ⟨Tryz.tyT, fn, pu, pr⟩) := ⟨by kernel_rfl, by kernel_rfl, by kernel_rfl, fun cy Y k => by kernel_rfl⟩
noncomputable def F72 : FFn := cF LV 0 [0, 2] Tryz.f72
noncomputable def G72 (E : Env) : ZFn := ⟨12, [0, 2], fun cy Y fuel =>
  (zSeq (zReg fun k => (zV 1 (vMv (.k .nilptr))) k)
  (zSeq (zSeq (zReg fun k => (zStep E (cy Y) ⟨.call 75 [(.v 0)], .push, none, false, 1, (some 0)⟩) ((zP (vNot (.l 0))) k))
  (zCond (.l 0) (zReg fun k => (zV 0 (vMv (.k (.sl 0 [] true)))) k) zSkip))
  (zSeq (zReg fun k => (zStep E (cy Y) ⟨.call 32 [(.v 0)], .push, none, false, 1, (some 0)⟩) ((zStep E (cy Y) ⟨.mkMap 87, .push, none, false, 2, (some 1)⟩) ((zStep E (cy Y) ⟨.build 163 [(1, (.l 0))], .push, none, false, 3, none⟩) ((zStep E (cy Y) ⟨.build 165 [(0, (.l 2)), (1, (.l 0))], .push, none, false, 4, none⟩) ((zStep E (cy Y) ⟨.box 165 (.l 0), .push, none, false, 5, (some 2)⟩) ((zV 1 (vMv (.l 0))) k))))))
  zRet))), [.tmp (.v 1)]⟩
theorem G72_ok (fn : Nat → Option Func) (pu : Nat → Bool) (pr : Nat → List AV → Option (Heap → Option (Eff × Acc))) : ZOk ⟨Tryz.tyT, fn, pu, pr⟩ npT F72 (G72 ⟨Tryz.tyT, fn, pu, pr⟩) := ⟨by kernel_rfl, by kernel_rfl, by kernel_rfl, fun cy Y k => by kernel_rfl⟩
noncomputable def F74 : FFn := cF LV 0 [0, 1, 4, 2, 8, 18] Tryz.f74
noncomputable def G74 (E : Env) : ZFn := ⟨30, [0, 1, 4, 2, 8, 18], fun cy Y fuel =>
  (zSeq (zReg fun k => (zStep E (cy Y) ⟨.box 42 (.v 0), (.var 1), none, false, 0, (some 0)⟩) ((zStep E (cy Y) ⟨.alloc 142, (.var 3), none, false, 1, (some 1)⟩) k))
  (zSeq (zSeq (zReg fun k => (zP (vFieldAddr 0 (.v 1))) ((zDstW (.var 2) (wLoad 1 false (.l 0))) k))
  (zBlock 0 (zSeq (zReg fun k => (zP (vInt E fEql .eql 3 false true (.v 2) (.k (.int .i64 1)))) ((zP (vMv (.l 0))) k))
  (zCond (.l 0) (zSeq (zReg fun k => (zStep E (cy Y) ⟨.build 142 [(0, (.k (.bool true))), (1, (.k (.bool true)))], .push, none, false, 0, none⟩) ((zStep E (cy Y) ⟨.store 142 (.v 3) (.l 0), .none, none, false, 1, none⟩) k))
  zRet) (zSeq (zSeq (zReg fun k => (zP (vInt E fEql .eql 3 false true (.v 2) (.k (.int .i64 2)))) ((zV 4 (vMv (.l 0))) k))
  (zCond (.v 4) zSkip (zReg fun k => (zP (vInt E fEql .eql 3 false true (.v 2) (.k (.int .i64 3)))) ((zV 4 (vMv (.l 0))) k))))
  (zCond (.v 4) (zSeq (zReg fun k => (zStep E (cy Y) ⟨.build 142 [(0, (.k (.bool true)))], .push, none, false, 0, none⟩) ((zStep E (cy Y) ⟨.store 142 (.v 3) (.l 0), .none, none, false, 1, none⟩) k))
  zRet) (zSeq (zReg fun k => (zP (vInt E fEql .eql 3 false true (.v 2) (.k (.int .i64 4)))) ((zP (vMv (.l 0))) k))
  (zCond (.l 0) (zSeq (zReg fun k => (zP (vFieldAddr 4 (.v 1))) ((zL 1 false (.l 0)) ((zP (vInt E fEql .eql 3 false true (.l 0) (.k (.int .i64 0)))) ((zStep E (cy Y) ⟨.build 142 [(0, (.k (.bool true))), (1, (.l 0))], .push, none, false, 3, none⟩) ((zStep E (cy Y) ⟨.store 142 (.v 3) (.l 0), .none, none, false, 4, none⟩) k)))))
  zRet) (zSeq (zSeq (zReg fun k => (zP (vInt E fEql .eql 3 false true (.v 2) (.k (.int .i64 5)))) ((zV 5 (vMv (.l 0))) k))
  (zCond (.v 5) zSkip (zSeq (zReg fun k => (zP (vInt E fEql .eql 3 false true (.v 2) (.k (.int .i64 7)))) ((zV 5 (vMv (.l 0))) k))
  (zCond (.v 5) zSkip (zReg fun k => (zP (vInt E fEql .eql 3 false true (.v 2) (.k (.int .i64 8)))) ((zV 5 (vMv (.l 0))) k))))))
  (zCond (.v 5) (zSeq (zReg fun k => (zStep E (cy Y) ⟨.build 142 [(2, (.k (.bool true)))], .push, none, false, 0, none⟩) ((zStep E (cy Y) ⟨.store 142 (.v 3) (.l 0), .none, none, false, 1, none⟩) k))
  zRet) (zSeq (zReg fun k => (zP (vInt E fEql .eql 3 false true (.v 2) (.k (.int .i64 6)))) ((zP (vMv (.l 0))) k))
  (zCond (.l 0) (zSeq (zReg fun k => (zStep E (cy Y) ⟨.build 142 [(3, (.k (.bool true)))], .push, none, false, 0, none⟩) ((zStep E (cy Y) ⟨.store 142 (.v 3) (.l 0), .none, none, false, 1, none⟩) k))
  zRet) (zSeq (zReg fun k => (zP (vInt E fEql .eql 3 false true (.v 2) (.k (.int .i64 9)))) ((zP (vMv (.l 0))) k))
  (zCond (.l 0) (zSeq (zReg fun k => (zStep E (cy Y) ⟨.build 142 [(4, (.k (.bool true)))], .push, none, false, 0, none⟩) ((zStep E (cy Y) ⟨.store 142 (.v 3) (.l 0), .none, none, false, 1, none⟩) k))
  zRet) zSkip))))))))))))))
  (zSeq (zReg fun k => (zStep E (cy Y) ⟨.build 142 [], .push, none, false, 0, none⟩) ((zStep E (cy Y) ⟨.store 142 (.v 3) (.l 0), .none, none, false, 1, none⟩) k))
  zRet))), [.cell (.v 3) 142]⟩
theorem G74_ok (fn : Nat → Option Func) (pu : Nat → Bool) (pr : Nat → List AV → Option (Heap → Option (Eff × Acc))) : ZOk ⟨Tryz.tyT, fn, pu, pr⟩ npT F74 (G74 ⟨Tryz.tyT, fn, pu, pr⟩) := ⟨by kernel_rfl, by kernel_rfl, by kernel_rfl, fun cy Y k => by kernel_rfl⟩
noncomputable def F75 : FFn := cF LV 0 [0, 10, 9, 8, 4, 3, 6, 7, 5, 2] Tryz.f75
noncomputable def G75 (E : Env) : ZFn := ⟨68, [0, 10, 9, 8, 4, 3, 6, 7, 5, 2], fun cy Y fuel =>
  (zSeq (zReg fun k => (zV 9 (vMv (.k (.bool false)))) k)
  (zSeq (zSeq (zReg fun k => (zV 3 (vMv (.v 0))) ((zV 2 (vLenL (.v 3))) ((zV 1 (vMv (.k (.int .i64 0)))) k)))
  (zBlock 0 (zLoop fuel (zSeq (zReg fun k => (zP (vInt E fLss .lss 3 false false (.v 1) (.v 2))) k)
  (zSeq (zCond (.l 0) zSkip (zExit 0))
  (zSeq (zBlock 1 (zSeq (zReg fun k => (zP (vIndexAddr 4 (.v 3) (.v 1))) ((zL 4 true (.l 0)) ((zStep E (cy Y) ⟨.alloc 83, (.var 4), none, false, 3, (some 0)⟩) ((zV 5 (vMv (.v 1))) ((zStep E (cy Y) ⟨.store 83 (.v 4) (.l 0), .none, none, false, 5, none⟩) k)))))
  (zSeq (zReg fun k => (zP (vFieldAddr 2 (.v 4))) ((zL 2 true (.l 0)) ((zStep E (cy Y) ⟨.call 133 [(.l 0)], .push, none, false, 2, (some 0)⟩) ((zV 8 (vMv (.l 0))) k))))
  (zSeq (zReg fun k => (zP (vFieldAddr 0 (.v 4))) ((zL 1 false (.l 0)) ((zP (vLenS (.l 0))) ((zP (vInt E fEql .eql 3 false true (.l 0) (.k (.int .i64 1)))) ((zG (.l 0) true .push (zP (vFieldAddr 0 (.v 4)))) ((zG (.l 1) true .push (zL 1 false (.l 0))) ((zG (.l 2) true .push (zStep E (cy Y) ⟨.index 9 (.l 0) (.k (.int .i64 0)), .push, none, false, 7, none⟩)) ((zG (.l 3) true .push (zP (vInt E (fGen .geq) .geq 5 false true (.l 0) (.k (.int .u8 97))))) ((zP (vPick (.l 4) (.l 0) (.k (.bool false)))) ((zG (.l 0) true .push (zP (vFieldAddr 0 (.v 4)))) ((zG (.l 1) true .push (zL 1 false (.l 0))) ((zG (.l 2) true .push (zStep E (cy Y) ⟨.index 9 (.l 0) (.k (.int .i64 0)), .push, none, false, 13, none⟩)) ((zG (.l 3) true .push (zP (vInt E (fGen .leq) .leq 5 false true (.l 0) (.k (.int .u8 122))))) ((zP (vPick (.l 4) (.l 0) (.k (.bool false)))) ((zV 6 (vMv (.l 0))) k)))))))))))))))
  (zSeq (zReg fun k => (zStep E (cy Y) ⟨.slice 31 (.v 0) none (some (.v 5)) none, .push, none, false, 2, none⟩) ((zStep E (cy Y) ⟨.mkFunc 135 [(.v 4)], .push, none, false, 3, none⟩) ((zCall (cy Y) 134 [(.l 1), (.l 0)] .push) ((zV 7 (vMv (.l 0))) k))))
  (zSeq (zReg fun k => (zP (vNot (.v 6))) ((zG (.l 0) false .push (zP (vMv (.v 7)))) ((zP (vPick (.l 1) (.k (.bool true)) (.l 0))) ((zG (.l 0) false .push (zP (vMv (.v 8)))) ((zG (.l 1) false .push (zP (vInt E fEql .eql 3 false true (.l 0) (.k (.int .i64 0))))) ((zP (vPick (.l 2) (.k (.bool true)) (.l 0))) ((zG (.l 0) false .push (zP (vFieldAddr 1 (.v 4)))) ((zG (.l 1) false .push (zL 1 false (.l 0))) ((zG (.l 2) false .push (zP (vMv (.v 8)))) ((zG (.l 3) false .push (zP (vInt E fNeq .neq 3 false false (.l 1) (.l 0)))) ((zG (.l 4) false .push (zP (vMv (.l 0)))) ((zG (.l 0) true .push (zP (vFieldAddr 1 (.v 4)))) ((zG (.l 1) true .push (zL 1 false (.l 0))) ((zG (.l 2) true .push (zP (vInt E fNeq .neq 3 false true (.l 0) (.k (.int .i64 1))))) ((zG (.l 8) false .push (zP (vPick (.l 3) (.l 0) (.k (.bool false))))) ((zP (vPick (.l 9) (.k (.bool true)) (.l 0))) k))))))))))))))))
  (zCond (.l 0) (zSeq (zReg fun k => (zV 9 (vMv (.k (.bool false)))) k)
  zRet) zSkip)))))))
  (zReg fun k => (zP (vInt E fAdd .add 3 false true (.v 1) (.k (.int .i64 1)))) ((zV 1 (vMv (.l 0))) k))))))))
  (zSeq (zReg fun k => (zP (vLenL (.v 0))) ((zP (vInt E (fGen .geq) .geq 3 false true (.l 0) (.k (.int .i64 1)))) ((zG (.l 0) true .push (zP (vMv (.v 0)))) ((zG (.l 1) true .push (zP (vLenL (.l 0)))) ((zG (.l 2) true .push (zP (vInt E (fGen .leq) .leq 3 false true (.l 0) (.k (.int .i64 4))))) ((zP (vPick (.l 3) (.l 0) (.k (.bool false)))) ((zV 9 (vMv (.l 0))) k)))))))
  zRet))), [.tmp (.v 9)]⟩
theorem G75_ok (fn : Nat → Option Func) (pu : Nat → Bool) (pr : Nat → List AV → Option (Heap → Option (Eff × Acc))) : ZOk ⟨Tryz.tyT, fn, pu, pr⟩ npT F75 (G75 ⟨Tryz.tyT, fn, pu, pr⟩) := ⟨by kernel_rfl, by kernel_rfl, by kernel_rfl, fun cy Y k => by kernel_rfl⟩
noncomputable def F76 : FFn := cF LV 0 [0, 2] Tryz.f76
noncomputable def G76 (E : Env) : ZFn := ⟨17, [0, 2], fun cy Y fuel =>
  (zSeq (zReg fun k => (zV 1 (vMv (.k (.bool false)))) k)
  (zSeq (zReg fun k => (zP (vInt E (fGen .geq) .geq 3 false true (.v 0) (.k (.int .i64 0)))) ((zG (.l 0) true .push (zP (vMv (.v 0)))) ((zG (.l 1) true .push (zP (vInt E fLss .lss 3 false true (.l 0) (.k (.int .i64 4))))) ((zP (vPick (.l 2) (.l 0) (.k (.bool false)))) ((zG (.l 0) false .push (zP (vMv (.v 0)))) ((zG (.l 1) false .push (zP (vInt E (fGen .geq) .geq 3 false true (.l 0) (.k (.int .i64 100))))) ((zG (.l 2) false .push (zP (vMv (.l 0)))) ((zG (.l 0) true .push (zP (vMv (.v 0)))) ((zG (.l 1) true .push (zP (vInt E fLss .lss 3 false true (.l 0) (.k (.int .i64 103))))) ((zG (.l 5) false .push (zP (vPick (.l 2) (.l 0) (.k (.bool false))))) ((zP (vPick (.l 6) (.k (.bool true)) (.l 0))) ((zV 1 (vMv (.l 0))) k))))))))))))
  zRet)), [.tmp (.v 1)]⟩
theorem G76_ok (fn : Nat → Option Func) (pu : Nat → Bool) (pr : Nat → List AV → Option (Heap → Option (Eff × Acc))) : ZOk ⟨Tryz.tyT, fn, pu, pr⟩ npT F76 (G76 ⟨Tryz.tyT, fn, pu, pr⟩) := ⟨by kernel_rfl, by kernel_rfl, by kernel_rfl, fun cy Y k => by kernel_rfl⟩
noncomputable def F77 : FFn := cF LV 0 [0, 1, 2, 3, 4] Tryz.f77
noncomputable def G77 (E : Env) : ZFn := ⟨52, [0, 1, 2, 3, 4], fun cy Y fuel =>
  (zSeq (zReg fun k => (zStep E (cy Y) ⟨.box 142 (.v 0), (.var 2), none, false, 0, (some 0)⟩) ((zStep E (cy Y) ⟨.box 42 (.v 1), (.var 3), none, false, 1, (some 1)⟩) ((zV 4 (vMv (.k (.bool false)))) k)))
  (zSeq (zReg fun k => (zP (vFieldAddr 0 (.v 2))) ((zL 1 false (.l 0)) ((zG (.l 0) false .push (zP (vFieldAddr 5 (.v 3)))) ((zG (.l 1) false .push (zL 1 false (.l 0))) ((zG (.l 2) false .push (zP (vInt E fEql .eql 9 false true (.l 0) (.k (.str []))))) ((zP (vPick (.l 3) (.k (.bool true)) (.l 0))) ((zG (.l 0) true .push (zP (vFieldAddr 1 (.v 2)))) ((zG (.l 1) true .push (zL 1 false (.l 0))) ((zG (.l 2) true .push (zP (vMv (.l 0)))) ((zG (.l 0) false .push (zP (vFieldAddr 6 (.v 3)))) ((zG (.l 1) false .push (zL 5 true (.l 0))) ((zG (.l 2) false .push (zStep E (cy Y) ⟨.build 38 [], .push, none, false, 13, none⟩)) ((zG (.l 3) false .push (zStep E (cy Y) ⟨.call 136 [(.l 1), (.l 0)], .push, none, false, 14, (some 0)⟩)) ((zG (.l 7) true .push (zP (vPick (.l 4) (.k (.bool true)) (.l 0)))) ((zP (vPick (.l 8) (.l 0) (.k (.bool false)))) ((zG (.l 0) true .push (zP (vFieldAddr 2 (.v 2)))) ((zG (.l 1) true .push (zL 1 false (.l 0))) ((zG (.l 2) true .push (zP (vMv (.l 0)))) ((zG (.l 0) false .push (zP (vFieldAddr 11 (.v 3)))) ((zG (.l 1) false .push (zL 1 false (.l 0))) ((zG (.l 2) false .push (zP (vLenL (.l 0)))) ((zG (.l 3) false .push (zP (vInt E fEql .eql 3 false true (.l 0) (.k (.int .i64 0))))) ((zG (.l 7) true .push (zP (vPick (.l 4) (.k (.bool true)) (.l 0)))) ((zP (vPick (.l 8) (.l 0) (.k (.bool false)))) ((zG (.l 0) true .push (zP (vFieldAddr 3 (.v 2)))) ((zG (.l 1) true .push (zL 1 false (.l 0))) ((zG (.l 2) true .push (zP (vMv (.l 0)))) ((zG (.l 0) false .push (zP (vFieldAddr 12 (.v 3)))) ((zG (.l 1) false .push (zL 1 false (.l 0))) ((zG (.l 2) false .push (zP (vLenL (.l 0)))) ((zG (.l 3) false .push (zP (vInt E fEql .eql 3 false true (.l 0) (.k (.int .i64 0))))) ((zG (.l 7) true .push (zP (vPick (.l 4) (.k (.bool true)) (.l 0)))) ((zP (vPick (.l 8) (.l 0) (.k (.bool false)))) ((zG (.l 0) true .push (zP (vFieldAddr 4 (.v 2)))) ((zG (.l 1) true .push (zL 1 false (.l 0))) ((zG (.l 2) true .push (zP (vMv (.l 0)))) ((zG (.l 0) false .push (zP (vFieldAddr 13 (.v 3)))) ((zG (.l 1) false .push (zL 2 true (.l 0))) ((zG (.l 2) false .push (zStep E (cy Y) ⟨.build 26 [], .push, none, false, 43, none⟩)) ((zG (.l 3) false .push (zCall (cy Y) 137 [(.l 1), (.l 0)] .push)) ((zG (.l 7) true .push (zP (vPick (.l 4) (.k (.bool true)) (.l 0)))) ((zP (vPick (.l 8) (.l 0) (.k (.bool false)))) ((zV 4 (vMv (.l 0))) k)))))))))))))))))))))))))))))))))))))))))))
  zRet)), [.tmp (.v 4)]⟩
theorem G77_ok (fn : Nat → Option Func) (pu : Nat → Bool) (pr : Nat → List AV → Option (Heap → Option (Eff × Acc))) : ZOk ⟨Tryz.tyT, fn, pu, pr⟩ npT F77 (G77 ⟨Tryz.tyT, fn, pu, pr⟩) := ⟨by kernel_rfl, by kernel_rfl, by kernel_rfl, fun cy Y k => by kernel_rfl⟩
noncomputable def F78 : FFn := cF LV 0 [1, 3, 4, 0, 6, 5] Tryz.f78
noncomputable def G78 (E : Env) : ZFn := ⟨31, [1, 3, 4, 0, 6, 5], fun cy Y fuel =>
  (zSeq (zReg fun k => (zStep E (cy Y) ⟨.box 9 (.v 0), (.var 1), none, false, 0, (some 0)⟩) ((zStep E (cy Y) ⟨.alloc 83, (.var 2), none, false, 1, (some 1)⟩) ((zV 5 (vMv (.k (.bool false)))) k)))
  (zSeq (zSeq (zReg fun k => (zL 1 false (.v 1)) ((zP (vLenS (.l 0))) ((zP (vInt E fLss .lss 3 false true (.l 0) (.k (.int .i64 2)))) ((zG (.l 0) false .push (zL 1 false (.v 1))) ((zG (.l 1) false .push (zP (vLenS (.l 0)))) ((zG (.l 2) false .push (zP (vInt E fGtr .gtr 3 false true (.l 0) (.k (.int .i64 8))))) ((zP (vPick (.l 3) (.k (.bool true)) (.l 0))) ((zG (.l 0) false .push (zL 1 false (.v 1))) ((zG (.l 1) false .push (zStep E (cy Y) ⟨.call 138 [(.l 0)], .push, none, false, 10, (some 0)⟩)) ((zG (.l 2) false .push (zP (vNot (.l 0)))) ((zP (vPick (.l 3) (.k (.bool true)) (.l 0))) k)))))))))))
  (zCond (.l 0) (zSeq (zReg fun k => (zStep E (cy Y) ⟨.build 83 [], .push, none, false, 0, none⟩) ((zStep E (cy Y) ⟨.store 83 (.v 2) (.l 0), .none, none, false, 1, none⟩) ((zV 5 (vMv (.k (.bool false)))) k)))
  zRet) zSkip))
  (zSeq (zReg fun k => (zStep E (cy Y) ⟨.mkFunc 140 [(.v 1)], .push, none, false, 1, none⟩) ((zStep E (cy Y) ⟨.call 139 [(.v 3), (.l 0)], .push, none, false, 2, (some 0)⟩) ((zV 4 (vMv (.l 0))) k)))
  (zSeq (zSeq (zReg fun k => (zP (vInt E fLss .lss 3 false true (.v 4) (.k (.int .i64 0)))) k)
  (zCond (.l 0) (zSeq (zReg fun k => (zStep E (cy Y) ⟨.build 83 [], .push, none, false, 0, none⟩) ((zStep E (cy Y) ⟨.store 83 (.v 2) (.l 0), .none, none, false, 1, none⟩) ((zV 5 (vMv (.k (.bool false)))) k)))
  zRet) zSkip))
  (zSeq (zReg fun k => (zP (vIndexAddr 4 (.v 3) (.v 4))) ((zL 4 true (.l 0)) ((zStep E (cy Y) ⟨.store 83 (.v 2) (.l 0), .none, none, false, 4, none⟩) ((zV 5 (vMv (.k (.bool true)))) k))))
  zRet))))), [.cell (.v 2) 83, .tmp (.v 5)]⟩
theorem G78_ok (fn : Nat → Option Func) (pu : Nat → Bool) (pr : Nat → List AV → Option (Heap → Option (Eff × Acc))) : ZOk ⟨Tryz.tyT, fn, pu, pr⟩ npT F78 (G78 ⟨Tryz.tyT, fn, pu, pr⟩) := ⟨by kernel_rfl, by kernel_rfl, by kernel_rfl, fun cy Y k => by kernel_rfl⟩
noncomputable def F79 : FFn := cF LV 0 [2, 0, 1, 8, 7, 5, 6] Tryz.f79
noncomputable def G79 (E : Env) : ZFn := ⟨22, [2, 0, 1, 8, 7, 5, 6], fun cy Y fuel =>
  (zSeq (zReg fun k => (zStep E (cy Y) ⟨.box 38 (.v 0), (.var 5), none, false, 0, (some 0)⟩) ((zV 6 (vMv (.k (.bool false)))) k))
  (zSeq (zReg fun k => (zCall (cy Y) 78 [(.v 1), (.v 2)] .push) ((zP (vExtract 0 (.l 0))) ((zP (vExtract 1 (.l 1))) ((zStep E (cy Y) ⟨.alloc 83, (.var 4), none, false, 6, (some 1)⟩) ((zStep E (cy Y) ⟨.store 83 (.v 4) (.l 1), .none, none, false, 7, none⟩) ((zV 3 (vMv (.l 0))) k))))))
  (zSeq (zReg fun k => (zG (.v 3) true .push (zP (vFieldAddr 2 (.v 4)))) ((zG (.v 3) true .push (zL 2 true (.l 0))) ((zG (.v 3) true .push (zL 5 true (.v 5))) ((zG (.v 3) true .push (zStep E (cy Y) ⟨.call 141 [(.l 1), (.l 0)], .push, none, false, 5, (some 0)⟩)) ((zP (vPick (.v 3) (.l 0) (.k (.bool false)))) ((zV 6 (vMv (.l 0))) k))))))
  zRet))), [.tmp (.v 6)]⟩
theorem G79_ok (fn : Nat → Option Func) (pu : Nat → Bool) (pr : Nat → List AV → Option (Heap → Option (Eff × Acc))) : ZOk ⟨Tryz.tyT, fn, pu, pr⟩ npT F79 (G79 ⟨Tryz.tyT, fn, pu, pr⟩) := ⟨by kernel_rfl, by kernel_rfl, by kernel_rfl, fun cy Y k => by kernel_rfl⟩
noncomputable def F80 : FFn := cF LV 0 [0, 1, 11, 10, 9, 4, 3, 48, 47, 46, 7, 5, 2] Tryz.f80
noncomputable def G80 (E : Env) : ZFn := ⟨89, [0, 1, 11, 10, 9, 4, 3, 48, 47, 46, 7, 5, 2], fun cy Y fuel =>
  (zSeq (zReg fun k => (zStep E (cy Y) ⟨.box 26 (.v 0), (.var 1), none, false, 0, (some 0)⟩) ((zV 12 (vMv (.k (.bool false)))) k))
  (zSeq (zSeq (zReg fun k => (zP (vFieldAddr 0 (.v 1))) ((zDstW (.var 4) (wLoad 1 false (.l 0))) ((zV 3 (vLenL (.v 4))) ((zV 2 (vMv (.k (.int .i64 0)))) k))))
  (zBlock 0 (zLoop fuel (zSeq (zReg fun k => (zP (vInt E fLss .lss 3 false false (.v 2) (.v 3))) k)
  (zSeq (zCond (.l 0) zSkip (zExit 0))
  (zSeq (zBlock 1 (zSeq (zReg fun k => (zP (vIndexAddr 2 (.v 4) (.v 2))) ((zL 2 true (.l 0)) ((zStep E (cy Y) ⟨.alloc 77, (.var 5), none, false, 3, (some 0)⟩) ((zV 6 (vMv (.v 2))) ((zStep E (cy Y) ⟨.store 77 (.v 5) (.l 0), .none, none, false, 5, none⟩) k)))))
  (zSeq (zDreg 1 fun n0 k => (zPD (vFieldAddr 0 (.v 5))) ((zLD B20 1 1 false (.l 0)) ((zPD (vInt E fLss .lss 3 false true (.l 0) (.k (.int .i64 0)))) ((zGD (.l 0) false .push (zPD (vFieldAddr 0 (.v 5)))) ((zGD (.l 1) false .push (zLD B20 5 1 false (.l 0))) ((zGD (.l 2) false .push (zPD (vInt E (fGen .geq) .geq 3 false true (.l 0) (.k (.int .i64 4))))) ((zPD (vPick (.l 3) (.k (.bool true)) (.l 0))) ((zGD (.l 0) false .push (zPD (vFieldAddr 1 (.v 5)))) ((zGD (.l 1) false .push (zLD B20 10 1 false (.l 0))) ((zGD (.l 2) false .push (zPD (vInt E fEql .eql 33 false true (.l 0) (.k (.int .u64 0))))) ((zPD (vPick (.l 3) (.k (.bool true)) (.l 0))) ((zGD (.l 0) false .push (zPD (vMv (.v 6)))) ((zGD (.l 1) false .push (zPD (vInt E fGtr .gtr 3 false true (.l 0) (.k (.int .i64 0))))) ((zGD (.l 2) false .push (zPD (vMv (.l 0)))) ((zGD (.l 0) true .push (zPD (vFieldAddr 0 (.v 1)))) ((zGD (.l 1) true .push (zLD B20 18 1 false (.l 0))) ((zGD (.l 2) true .push (zPD (vMv (.v 6)))) ((zGD (.l 3) true .push (zPD (vInt E fSub .sub 3 false true (.l 0) (.k (.int .i64 1))))) ((zGD (.l 4) true .push (zPD (vIndexAddr 2 (.l 2) (.l 0)))) ((zGD (.l 5) true .push (zLD B20 22 2 true (.l 0))) ((zGD (.l 6) true .push (zLD B20 23 2 true (.v 5))) ((zGD (.l 7) true .push (zCallD (cy Y) B20 24 102 [(.l 1), (.l 0)] .push)) ((zGD (.l 8) true .push (zPD (vInt E (fGen .geq) .geq 3 false true (.l 0) (.k (.int .i64 0))))) ((zGD (.l 12) false .push (zPD (vPick (.l 9) (.l 0) (.k (.bool false))))) ((zPD (vPick (.l 13) (.k (.bool true)) (.l 0))) k)))))))))))))))))))))))))
  (zCond (.l 0) (zSeq (zReg fun k => (zV 12 (vMv (.k (.bool false)))) k)
  zRet) zSkip))))
  (zReg fun k => (zP (vInt E fAdd .add 3 false true (.v 2) (.k (.int .i64 1)))) ((zV 2 (vMv (.l 0))) k))))))))
  (zSeq (zReg fun k => (zV 11 (vMv (.k (.sl 0 [] true)))) k)
  (zSeq (zSeq (zReg fun k => (zP (vFieldAddr 1 (.v 1))) ((zDstW (.var 9) (wLoad 1 false (.l 0))) ((zV 8 (vLenL (.v 9))) ((zV 7 (vMv (.k (.int .i64 0)))) k))))
  (zBlock 2 (zLoop fuel (zSeq (zReg fun k => (zP (vInt E fLss .lss 3 false false (.v 7) (.v 8))) k)
  (zSeq (zCond (.l 0) zSkip (zExit 2))
  (zSeq (zBlock 3 (zSeq (zReg fun k => (zP (vIndexAddr 3 (.v 9) (.v 7))) ((zL 3 true (.l 0)) ((zStep E (cy Y) ⟨.alloc 131, (.var 10), none, false, 2, (some 0)⟩) ((zStep E (cy Y) ⟨.store 131 (.v 10) (.l 0), .none, none, false, 3, none⟩) k))))
  (zSeq (zSeq (zReg fun k => (zP (vFieldAddr 0 (.v 10))) ((zL 1 false (.l 0)) ((zP (vInt E fEql .eql 9 false true (.l 0) (.k (.str [])))) ((zG (.l 0) false .push (zP (vFieldAddr 0 (.v 10)))) ((zG (.l 1) false .push (zL 1 false (.l 0))) ((zG (.l 2) false .push (zP (vLenS (.l 0)))) ((zG (.l 3) false .push (zP (vInt E fGtr .gtr 3 false true (.l 0) (.k (.int .i64 8))))) ((zP (vPick (.l 4) (.k (.bool true)) (.l 0))) ((zG (.l 0) false .push (zP (vFieldAddr 1 (.v 10)))) ((zG (.l 1) false .push (zL 1 false (.l 0))) ((zG (.l 2) false .push (zP (vInt E fEql .eql 33 false true (.l 0) (.k (.int .u64 0))))) ((zP (vPick (.l 3) (.k (.bool true)) (.l 0))) ((zG (.l 0) false .push (zP (vFieldAddr 2 (.v 10)))) ((zG (.l 1) false .push (zL 1 false (.l 0))) ((zG (.l 2) false .push (zP (vInt E fLss .lss 33 false true (.l 0) (.k (.int .u64 1))))) ((zP (vPick (.l 3) (.k (.bool true)) (.l 0))) ((zG (.l 0) false .push (zP (vFieldAddr 2 (.v 10)))) ((zG (.l 1) false .push (zL 1 false (.l 0))) ((zG (.l 2) false .push (zP (vInt E fGtr .gtr 33 false true (.l 0) (.k (.int .u64 3))))) ((zP (vPick (.l 3) (.k (.bool true)) (.l 0))) k))))))))))))))))))))
  (zCond (.l 0) (zSeq (zReg fun k => (zV 12 (vMv (.k (.bool false)))) k)
  zRet) zSkip))
  (zReg fun k => (zP (vMv (.v 11))) ((zP (vFieldAddr 0 (.v 10))) ((zL 1 false (.l 0)) ((zStep E (cy Y) ⟨.buildSlice 34 1 [(0, (.l 0))], .push, none, false, 3, (some 0)⟩) ((zStep E (cy Y) ⟨.append 34 34 (.l 3) (.l 0), .push, none, false, 4, (some 1)⟩) ((zV 11 (vMv (.l 0))) k)))))))))
  (zReg fun k => (zP (vInt E fAdd .add 3 false true (.v 7) (.k (.int .i64 1)))) ((zV 7 (vMv (.l 0))) k))))))))
  (zSeq (zReg fun k => (zCall (cy Y) 142 [(.v 11)] .push) ((zG (.l 0) true .push (zP (vMv (.v 11)))) ((zG (.l 1) true .push (zP (vLenL (.l 0)))) ((zG (.l 2) true .push (zP (vInt E (fGen .leq) .leq 3 false true (.l 0) (.k (.int .i64 40))))) ((zP (vPick (.l 3) (.l 0) (.k (.bool false)))) ((zV 12 (vMv (.l 0))) k))))))
  zRet))))), [.tmp (.v 12)]⟩
theorem G80_ok (fn : Nat → Option Func) (pu : Nat → Bool) (pr : Nat → List AV → Option (Heap → Option (Eff × Acc))) : ZOk ⟨Tryz.tyT, fn, pu, pr⟩ npT F80 (G80 ⟨Tryz.tyT, fn, pu, pr⟩) := ⟨by kernel_rfl, by kernel_rfl, by kernel_rfl, fun cy Y k => by kernel_rfl⟩
noncomputable def F81 : FFn := cF LV 0 [1, 13, 12, 11, 0, 8, 2, 9, 6] Tryz.f81
noncomputable def G81 (E : Env) : ZFn := ⟨46, [1, 13, 12, 11, 0, 8, 2, 9, 6], fun cy Y fuel =>
  (zSeq (zReg fun k => (zV 8 (vMv (.k (.bool false)))) k)
  (zSeq (zSeq (zReg fun k => (zV 3 (vMv (.v 0))) ((zV 2 (vLenL (.v 3))) ((zV 1 (vMv (.k (.int .i64 0)))) k)))
  (zBlock 0 (zLoop fuel (zSeq (zReg fun k => (zP (vInt E fLss .lss 3 false false (.v 1) (.v 2))) k)
  (zSeq (zCond (.l 0) zSkip (zExit 0))
  (zSeq (zBlock 1 (zSeq (zReg fun k => (zP (vIndexAddr 6 (.v 3) (.v 1))) ((zL 6 true (.l 0)) ((zStep E (cy Y) ⟨.alloc 122, (.var 5), none, false, 2, (some 0)⟩) ((zStep E (cy Y) ⟨.store 122 (.v 5) (.l 0), .none, none, false, 3, none⟩) k))))
  (zSeq (zReg fun k => (zP (vFieldAddr 0 (.v 5))) ((zL 1 false (.l 0)) ((zCall (cy Y) 78 [(.v 4), (.l 0)] .push) ((zP (vExtract 0 (.l 0))) ((zP (vExtract 1 (.l 1))) ((zStep E (cy Y) ⟨.alloc 83, (.var 7), none, false, 7, (some 1)⟩) ((zStep E (cy Y) ⟨.store 83 (.v 7) (.l 1), .none, none, false, 8, none⟩) ((zP (vMv (.l 0))) k))))))))
  (zSeq (zReg fun k => (zP (vFieldAddr 0 (.v 5))) ((zL 1 false (.l 0)) ((zP (vFieldAddr 1 (.v 5))) ((zL 5 true (.l 0)) ((zCall (cy Y) 79 [(.v 4), (.l 2), (.l 0)] .push) ((zP (vNot (.l 0))) ((zG (.l 0) false .push (zP (vMv (.v 6)))) ((zG (.l 1) false .push (zP (vNot (.l 0)))) ((zG (.l 2) false .push (zP (vMv (.l 0)))) ((zG (.l 0) true .push (zP (vFieldAddr 2 (.v 7)))) ((zG (.l 1) true .push (zL 2 true (.l 0))) ((zG (.l 2) true .push (zP (vFieldAddr 1 (.v 5)))) ((zG (.l 3) true .push (zL 5 true (.l 0))) ((zG (.l 4) true .push (zCall (cy Y) 143 [(.l 2), (.l 0)] .push)) ((zG (.l 8) false .push (zP (vPick (.l 5) (.l 0) (.k (.bool false))))) ((zP (vPick (.l 9) (.k (.bool true)) (.l 0))) k))))))))))))))))
  (zCond (.l 0) (zSeq (zReg fun k => (zV 8 (vMv (.k (.bool false)))) k)
  zRet) zSkip)))))
  (zReg fun k => (zP (vInt E fAdd .add 3 false true (.v 1) (.k (.int .i64 1)))) ((zV 1 (vMv (.l 0))) k))))))))
  (zSeq (zReg fun k => (zCall (cy Y) 144 [(.v 4), (.v 0), (.k (.clo 145 []))] .push) ((zV 8 (vMv (.l 0))) k))
  zRet))), [.tmp (.v 8)]⟩
theorem G81_ok (fn : Nat → Option Func) (pu : Nat → Bool) (pr : Nat → List AV → Option (Heap → Option (Eff × Acc))) : ZOk ⟨Tryz.tyT, fn, pu, pr⟩ npT F81 (G81 ⟨Tryz.tyT, fn, pu, pr⟩) := ⟨by kernel_rfl, by kernel_rfl, by kernel_rfl, fun cy Y k => by kernel_rfl⟩
noncomputable def F82 : FFn := cF LV 1 [0, 2, 1, 5, 3, 7, 6] Tryz.f82
noncomputable def G82 (E : Env) : ZFn := ⟨35, [0, 2, 1, 5, 3, 7, 6], fun cy Y fuel =>
  (zSeq (zReg fun k => (zStep E (cy Y) ⟨.box 31 (.v 0), (.var 4), none, false, 0, (some 0)⟩) ((zStep E (cy Y) ⟨.box 154 (.v 1), (.var 3), none, false, 1, (some 1)⟩) ((zStep E (cy Y) ⟨.alloc 4, (.var 6), none, false, 2, (some 2)⟩) k)))
  (zSeq (zReg fun k => (zStep E (cy Y) ⟨.alloc 9, (.var 5), none, false, 0, (some 0)⟩) ((zStep E (cy Y) ⟨.store 9 (.v 5) (.k (.str [])), .none, none, false, 1, none⟩) k))
  (zSeq (zSeq (zReg fun k => (zCall (cy Y) 146 [(.v 2)] .push) k)
  (zBlock 0 (zRange cy Y (.l 0) 1 [none, (some (.v 3)), none, (some (.v 4)), none, none, (some (.v 5)), (some (.v 6))] [none, none, none, (some (.v 4)), none, (some (.v 3)), (some (.v 6)), (some (.v 5)), none, none, none, none, none, none, none, none, none, none, none, none, none, none, none, none, none, none, none, none, none, none, none, none, none, none, none] [14] (codeAt [1, 1, 0, 1, 0, 0] (bodyOf Tryz.f82)) (codeAt [1, 1, 0, 1, 0, 1] (bodyOf Tryz.f82)))))
  (zSeq (zReg fun k => (zP (vLenL (.v 2))) ((zP (vInt E (fGen .leq) .leq 3 false true (.l 0) (.k (.int .i64 24)))) ((zStep E (cy Y) ⟨.store 4 (.v 6) (.l 0), .none, none, false, 3, none⟩) k)))
  zRet)))), [.cell (.v 6) 4]⟩
theorem G82_ok (fn : Nat → Option Func) (pu : Nat → Bool) (pr : Nat → List AV → Option (Heap → Option (Eff × Acc))) : ZOk ⟨Tryz.tyT, fn, pu, pr⟩ npT F82 (G82 ⟨Tryz.tyT, fn, pu, pr⟩) := ⟨by kernel_rfl, by kernel_rfl, by kernel_rfl, fun cy Y k => by kernel_rfl⟩
noncomputable def F95 : FFn := cF LV 0 [0, 1, 2] Tryz.f95
noncomputable def G95 (E : Env) : ZFn := ⟨9, [0, 1, 2], fun cy Y fuel =>
  (zSeq (zReg fun k => (zStep E (cy Y) ⟨.box 81 (.v 0), (.var 1), none, false, 0, (some 0)⟩) ((zStep E (cy Y) ⟨.alloc 38, (.var 2), none, false, 1, (some 1)⟩) k))
  (zSeq (zSeq (zReg fun k => (zL 2 true (.v 1)) ((zCall (cy Y) 158 [(.l 0)] .push) ((zP (vNot (.l 0))) k)))
  (zCond (.l 0) (zSeq (zReg fun k => (zStep E (cy Y) ⟨.build 38 [], .push, none, false, 0, none⟩) ((zStep E (cy Y) ⟨.store 38 (.v 2) (.l 0), .none, none, false, 1, none⟩) k))
  zRet) zSkip))
  (zSeq (zReg fun k => (zL 2 true (.v 1)) ((zCall (cy Y) 159 [(.l 0)] .push) ((zStep E (cy Y) ⟨.store 38 (.v 2) (.l 0), .none, none, false, 2, none⟩) k)))
  zRet))), [.cell (.v 2) 38]⟩
theorem G95_ok (fn : Nat → Option Func) (pu : Nat → Bool) (pr : Nat → List AV → Option (Heap → Option (Eff × Acc))) : ZOk ⟨Tryz.tyT, fn, pu, pr⟩ npT F95 (G95 ⟨Tryz.tyT, fn, pu, pr⟩) := ⟨by kernel_rfl, by kernel_rfl, by kernel_rfl, fun cy Y k => by kernel_rfl⟩
noncomputable def F96 : FFn := cF LV 0 [0, 1, 18, 17, 16, 9, 11, 2, 13, 12, 3, 8] Tryz.f96
noncomputable def G96 (E : Env) : ZFn := ⟨47, [0, 1, 18, 17, 16, 9, 11, 2, 13, 12, 3, 8], fun cy Y fuel =>
  (zSeq (zReg fun k => (zV 11 (vMv (.k (.sl 0 [] true)))) k)
  (zSeq (zReg fun k => (zStep E (cy Y) ⟨.call 69 [(.v 0)], .push, none, false, 1, (some 0)⟩) ((zV 5 (vMv (.l 0))) k))
  (zSeq (zSeq (zReg fun k => (zV 4 (vMv (.v 1))) ((zV 3 (vLenL (.v 4))) ((zV 2 (vMv (.k (.int .i64 0)))) k)))
  (zBlock 0 (zLoop fuel (zSeq (zReg fun k => (zP (vInt E fLss .lss 3 false false (.v 2) (.v 3))) k)
  (zSeq (zCond (.l 0) zSkip (zExit 0))
  (zSeq (zBlock 1 (zSeq (zReg fun k => (zP (vIndexAddr 3 (.v 4) (.v 2))) ((zL 3 true (.l 0)) ((zStep E (cy Y) ⟨.alloc 131, (.var 6), none, false, 2, (some 0)⟩) ((zStep E (cy Y) ⟨.store 131 (.v 6) (.l 0), .none, none, false, 3, none⟩) k))))
  (zSeq (zReg fun k => (zL 3 true (.v 6)) ((zCall (cy Y) 160 [(.v 5), (.l 0), (.v 7)] .push) ((zP (vExtract 0 (.l 0))) ((zP (vExtract 1 (.l 1))) ((zV 9 (vMv (.l 1))) ((zV 8 (vMv (.l 0))) k))))))
  (zSeq (zReg fun k => k)
  (zCond (.v 8) (zDreg 1 fun n0 k => (zPD (vIndexAddr 3 (.v 5) (.v 9))) ((zLD B21 6 3 true (.l 0)) ((zLD B21 7 3 true (.v 6)) ((zStepD E (cy Y) B21 n0 ⟨.callv (.v 10) [(.l 1), (.l 0)], .push, none, false, 8, (some 0)⟩) ((zPD (vIndexAddr 3 (.v 5) (.v 9))) ((zStepD E (cy Y) B21 n0 ⟨.store 131 (.l 0) (.l 1), .none, none, false, 10, none⟩) k)))))) (zReg fun k => (zP (vMv (.v 5))) ((zL 3 true (.v 6)) ((zStep E (cy Y) ⟨.buildSlice 24 1 [(0, (.l 0))], .push, none, false, 3, (some 0)⟩) ((zCall (cy Y) 161 [(.l 2), (.v 9), (.l 0)] .push) ((zV 5 (vMv (.l 0))) k))))))))))
  (zReg fun k => (zP (vInt E fAdd .add 3 false true (.v 2) (.k (.int .i64 1)))) ((zV 2 (vMv (.l 0))) k))))))))
  (zSeq (zReg fun k => (zV 11 (vMv (.v 5))) k)
  zRet)))), [.tmp (.v 11)]⟩
theorem G96_ok (fn : Nat → Option Func) (pu : Nat → Bool) (pr : Nat → List AV → Option (Heap → Option (Eff × Acc))) : ZOk ⟨Tryz.tyT, fn, pu, pr⟩ npT F96 (G96 ⟨Tryz.tyT, fn, pu, pr⟩) := ⟨by kernel_rfl, by kernel_rfl, by kernel_rfl, fun cy Y k => by kernel_rfl⟩
noncomputable def F99 : FFn := cF LV 0 [0, 8, 7, 6, 5, 3, 2] Tryz.f99
noncomputable def G99 (E : Env) : ZFn := ⟨18, [0, 8, 7, 6, 5, 3, 2], fun cy Y fuel =>
  (zSeq (zReg fun k => (zV 6 (vMv (.k (.int .i64 0)))) k)
  (zSeq (zReg fun k => (zV 5 (vMv (.k (.int .i64 0)))) k)
  (zSeq (zSeq (zReg fun k => (zV 3 (vMv (.v 0))) ((zV 2 (vLenL (.v 3))) ((zV 1 (vMv (.k (.int .i64 0)))) k)))
  (zBlock 0 (zLoop fuel (zSeq (zReg fun k => (zP (vInt E fLss .lss 3 false false (.v 1) (.v 2))) k)
  (zSeq (zCond (.l 0) zSkip (zExit 0))
  (zSeq (zBlock 1 (zSeq (zReg fun k => (zP (vIndexAddr 1 (.v 3) (.v 1))) ((zL 1 false (.l 0)) ((zV 4 (vMv (.l 0))) k)))
  (zSeq (zReg fun k => (zP (vInt E fNeq .neq 3 false false (.v 4) (.v 5))) k)
  (zCond (.l 0) (zSeq (zReg fun k => (zV 6 (vMv (.v 4))) k)
  zRet) zSkip))))
  (zReg fun k => (zP (vInt E fAdd .add 3 false true (.v 1) (.k (.int .i64 1)))) ((zV 1 (vMv (.l 0))) k))))))))
  (zSeq (zReg fun k => (zV 6 (vMv (.v 5))) k)
  zRet)))), [.tmp (.v 6)]⟩
theorem G99_ok (fn : Nat → Option Func) (pu : Nat → Bool) (pr : Nat → List AV → Option (Heap → Option (Eff × Acc))) : ZOk ⟨Tryz.tyT, fn, pu, pr⟩ npT F99 (G99 ⟨Tryz.tyT, fn, pu, pr⟩) := ⟨by kernel_rfl, by kernel_rfl, by kernel_rfl, fun cy Y k => by kernel_rfl⟩
noncomputable def F100 : FFn := cF LV 0 [0, 1, 5, 6, 4] Tryz.f100
noncomputable def G100 (E : Env) : ZFn := ⟨20, [0, 1, 5, 6, 4], fun cy Y fuel =>
  (zSeq (zReg fun k => (zV 4 (vMv (.k (.int .i64 0)))) k)
  (zSeq (zReg fun k => (zCall (cy Y) 163 [(.v 0)] .push) ((zV 2 (vMv (.l 0))) k))
  (zSeq (zReg fun k => (zCall (cy Y) 163 [(.v 1)] .push) ((zV 3 (vMv (.l 0))) k))
  (zSeq (zSeq (zReg fun k => k)
  (zCond (.v 2) (zSeq (zSeq (zReg fun k => k)
  (zCond (.v 3) (zSeq (zReg fun k => (zV 4 (vMv (.k (.int .i64 0)))) k)
  zRet) zSkip))
  (zSeq (zReg fun k => (zV 4 (vMv (.k (.int .i64 (-1))))) k)
  zRet)) zSkip))
  (zSeq (zSeq (zReg fun k => k)
  (zCond (.v 3) (zSeq (zReg fun k => (zV 4 (vMv (.k (.int .i64 1)))) k)
  zRet) zSkip))
  (zSeq (zSeq (zReg fun k => (zP (vInt E fLss .lss 33 false false (.v 0) (.v 1))) k)
  (zCond (.l 0) (zSeq (zReg fun k => (zV 4 (vMv (.k (.int .i64 (-1))))) k)
  zRet) zSkip))
  (zSeq (zSeq (zReg fun k => (zP (vInt E fGtr .gtr 33 false false (.v 0) (.v 1))) k)
  (zCond (.l 0) (zSeq (zReg fun k => (zV 4 (vMv (.k (.int .i64 1)))) k)
  zRet) zSkip))
  (zSeq (zReg fun k => (zV 4 (vMv (.k (.int .i64 0)))) k)
  zRet)))))))), [.tmp (.v 4)]⟩
theorem G100_ok (fn : Nat → Option Func) (pu : Nat → Bool) (pr : Nat → List AV → Option (Heap → Option (Eff × Acc))) : ZOk ⟨Tryz.tyT, fn, pu, pr⟩ npT F100 (G100 ⟨Tryz.tyT, fn, pu, pr⟩) := ⟨by kernel_rfl, by kernel_rfl, by kernel_rfl, fun cy Y k => by kernel_rfl⟩
noncomputable def F101 : FFn := cF LV 0 [0, 1, 18, 17, 16, 9, 11, 2, 13, 12, 3, 8] Tryz.f101
noncomputable def G101 (E : Env) : ZFn := ⟨47, [0, 1, 18, 17, 16, 9, 11, 2, 13, 12, 3, 8], fun cy Y fuel =>
  (zSeq (zReg fun k => (zV 11 (vMv (.k (.sl 0 [] true)))) k)
  (zSeq (zReg fun k => (zStep E (cy Y) ⟨.call 68 [(.v 0)], .push, none, false, 1, (some 0)⟩) ((zV 5 (vMv (.l 0))) k))
  (zSeq (zSeq (zReg fun k => (zV 4 (vMv (.v 1))) ((zV 3 (vLenL (.v 4))) ((zV 2 (vMv (.k (.int .i64 0)))) k)))
  (zBlock 0 (zLoop fuel (zSeq (zReg fun k => (zP (vInt E fLss .lss 3 false false (.v 2) (.v 3))) k)
  (zSeq (zCond (.l 0) zSkip (zExit 0))
  (zSeq (zBlock 1 (zSeq (zReg fun k => (zP (vIndexAddr 2 (.v 4) (.v 2))) ((zL 2 true (.l 0)) ((zStep E (cy Y) ⟨.alloc 77, (.var 6), none, false, 2, (some 0)⟩) ((zStep E (cy Y) ⟨.store 77 (.v 6) (.l 0), .none, none, false, 3, none⟩) k))))
  (zSeq (zReg fun k => (zL 2 true (.v 6)) ((zCall (cy Y) 164 [(.v 5), (.l 0), (.v 7)] .push) ((zP (vExtract 0 (.l 0))) ((zP (vExtract 1 (.l 1))) ((zV 9 (vMv (.l 1))) ((zV 8 (vMv (.l 0))) k))))))
  (zSeq (zReg fun k => k)
  (zCond (.v 8) (zDreg 1 fun n0 k => (zPD (vIndexAddr 2 (.v 5) (.v 9))) ((zLD B21 6 2 true (.l 0)) ((zLD B21 7 2 true (.v 6)) ((zStepD E (cy Y) B21 n0 ⟨.callv (.v 10) [(.l 1), (.l 0)], .push, none, false, 8, (some 0)⟩) ((zPD (vIndexAddr 2 (.v 5) (.v 9))) ((zStepD E (cy Y) B21 n0 ⟨.store 77 (.l 0) (.l 1), .none, none, false, 10, none⟩) k)))))) (zReg fun k => (zP (vMv (.v 5))) ((zL 2 true (.v 6)) ((zStep E (cy Y) ⟨.buildSlice 23 1 [(0, (.l 0))], .push, none, false, 3, (some 0)⟩) ((zStep E (cy Y) ⟨.call 165 [(.l 2), (.v 9), (.l 0)], .push, none, false, 4, (some 1)⟩) ((zV 5 (vMv (.l 0))) k))))))))))
  (zReg fun k => (zP (vInt E fAdd .add 3 false true (.v 2) (.k (.int .i64 1)))) ((zV 2 (vMv (.l 0))) k))))))))
  (zSeq (zReg fun k => (zV 11 (vMv (.v 5))) k)
  zRet)))), [.tmp (.v 11)]⟩
theorem G101_ok (fn : Nat → Option Func) (pu : Nat → Bool) (pr : Nat → List AV → Option (Heap → Option (Eff × Acc))) : ZOk ⟨Tryz.tyT, fn, pu, pr⟩ npT F101 (G101 ⟨Tryz.tyT, fn, pu, pr⟩) := ⟨by kernel_rfl, by kernel_rfl, by kernel_rfl, fun cy Y k => by kernel_rfl⟩
noncomputable def F104 : FFn := cF LV 0 [0, 2, 1, 4] Tryz.f104
noncomputable def G104 (E : Env) : ZFn := ⟨12, [0, 2, 1, 4], fun cy Y fuel =>
  (zSeq (zReg fun k => (zStep E (cy Y) ⟨.box 26 (.v 0), (.var 1), none, false, 0, (some 0)⟩) ((zV 3 (vMv (.k (.sl 0 [] true)))) k))
  (zSeq (zDreg 3 fun n0 k => (zLD B22 0 2 true (.v 1)) ((zCallD (cy Y) B22 1 121 [(.l 0)] .push) ((zLD B22 3 2 true (.v 1)) ((zCallD (cy Y) B22 5 117 [(.l 0), (.v 2)] .push) ((zCallD (cy Y) B22 6 167 [(.l 2), (.v 2), (.l 0)] .push) ((zVD 3 (vMv (.l 0))) k))))))
  zRet)), [.tmp (.v 3)]⟩
theorem G104_ok (fn : Nat → Option Func) (pu : Nat → Bool) (pr : Nat → List AV → Option (Heap → Option (Eff × Acc))) : ZOk ⟨Tryz.tyT, fn, pu, pr⟩ npT F104 (G104 ⟨Tryz.tyT, fn, pu, pr⟩) := ⟨by kernel_rfl, by kernel_rfl, by kernel_rfl, fun cy Y k => by kernel_rfl⟩
noncomputable def F105 : FFn := cF LV 0 [2, 0, 1, 5, 8, 6] Tryz.f105
noncomputable def G105 (E : Env) : ZFn := ⟨20, [2, 0, 1, 5, 8, 6], fun cy Y fuel =>
  (zSeq (zReg fun k => (zStep E (cy Y) ⟨.box 38 (.v 0), (.var 3), none, false, 0, (some 0)⟩) ((zV 5 (vMv (.k .nilIface))) k))
  (zSeq (zDreg 1 fun n0 k => (zPD (vNilCheck (.v 1))) ((zPD (vFieldAddr 1 (.l 0))) ((zLD B23 3 1 false (.l 0)) ((zLD B23 5 5 true (.v 3)) ((zCallD (cy Y) B23 6 168 [(.l 1), (.v 2), (.l 0)] .push) ((zPD (vExtract 0 (.l 0))) ((zPD (vExtract 1 (.l 1))) ((zPD (vMv (.l 1))) ((zVD 4 (vMv (.l 1))) k)))))))))
  (zSeq (zReg fun k => (zV 5 (vMv (.v 4))) k)
  zRet))), [.tmp (.v 5)]⟩
theorem G105_ok (fn : Nat → Option Func) (pu : Nat → Bool) (pr : Nat → List AV → Option (Heap → Option (Eff × Acc))) : ZOk ⟨Tryz.tyT, fn, pu, pr⟩ npT F105 (G105 ⟨Tryz.tyT, fn, pu, pr⟩) := ⟨by kernel_rfl, by kernel_rfl, by kernel_rfl, fun cy Y k => by kernel_rfl⟩
noncomputable def F107 : FFn := cF LV 0 [0, 1, 2] Tryz.f107
noncomputable def G107 (E : Env) : ZFn := ⟨4, [0, 1, 2], fun cy Y fuel =>
  (zSeq (zReg fun k => (zStep E (cy Y) ⟨.box 34 (.v 0), (.var 1), none, false, 0, (some 0)⟩) ((zV 2 (vMv (.k .nilFunc))) k))
  (zSeq (zReg fun k => (zStep E (cy Y) ⟨.mkFunc 169 [(.v 1)], .push, none, false, 0, none⟩) ((zV 2 (vMv (.l 0))) k))
  zRet)), [.tmp (.v 2)]⟩
theorem G107_ok (fn : Nat → Option Func) (pu : Nat → Bool) (pr : Nat → List AV → Option (Heap → Option (Eff × Acc))) : ZOk ⟨Tryz.tyT, fn, pu, pr⟩ npT F107 (G107 ⟨Tryz.tyT, fn, pu, pr⟩) := ⟨by kernel_rfl, by kernel_rfl, by kernel_rfl, fun cy Y k => by kernel_rfl⟩
noncomputable def F108 : FFn := cF LV 2 [0, 1, 7, 5, 8, 2, 6, 59, 10, 11, 4] Tryz.f108
noncomputable def G108 (E : Env) : ZFn := ⟨71, [0, 1, 7, 5, 8, 2, 6, 59, 10, 11, 4], fun cy Y fuel =>
  (zSeq (zReg fun k => (zStep E (cy Y) ⟨.box 103 (.v 0), (.var 5), none, false, 0, (some 0)⟩) ((zV 10 (vMv (.k (.sl 0 [] true)))) k))
  (zSeq (zReg fun k => (zStep E (cy Y) ⟨.mkMap 249, .push, none, false, 0, (some 0)⟩) ((zStep E (cy Y) ⟨.mkMap 249, .push, none, false, 1, (some 1)⟩) ((zStep E (cy Y) ⟨.alloc 249, (.var 6), none, false, 2, (some 2)⟩) ((zV 3 (vMv (.l 1))) ((zStep E (cy Y) ⟨.store 249 (.v 6) (.l 0), .none, none, false, 4, none⟩) k)))))
  (zSeq (zReg fun k => (zStep E (cy Y) ⟨.buildSlice 34 1 [(0, (.v 1))], .push, none, false, 1, (some 0)⟩) ((zStep E (cy Y) ⟨.alloc 34, (.var 2), none, false, 2, (some 1)⟩) ((zStep E (cy Y) ⟨.store 34 (.v 2) (.l 0), .none, none, false, 3, none⟩) k)))
  (zSeq (zBlock 0 (zLoop fuel (zSeq (zSeq (zReg fun k => (zL 1 false (.v 2)) ((zP (vLenL (.l 0))) ((zP (vInt E fGtr .gtr 3 false true (.l 0) (.k (.int .i64 0)))) k)))
  (zCond (.l 0) zSkip (zExit 0)))
  (zBlock 1 (zSeq (zReg fun k => (zL 1 false (.v 2)) ((zP (vIndexAddr 1 (.l 0) (.k (.int .i64 0)))) ((zL 1 false (.l 0)) ((zV 4 (vMv (.l 0))) k))))
  (zSeq (zReg fun k => (zL 1 false (.v 2)) ((zStep E (cy Y) ⟨.slice 34 (.l 0) (some (.k (.int .i64 1))) none none, .push, none, false, 1, none⟩) ((zStep E (cy Y) ⟨.store 34 (.v 2) (.l 0), .none, none, false, 2, none⟩) k)))
  (zSeq (zSeq (zReg fun k => (zStep E (cy Y) ⟨.lookup 249 (.v 3) (.v 4) false, .push, none, false, 2, none⟩) ((zG (.l 0) false .push (zL 1 false (.v 5))) ((zG (.l 1) false .push (zP (vMv (.v 4)))) ((zG (.l 2) false .push (zCall (cy Y) 170 [(.l 1), (.l 0)] .push)) ((zG (.l 3) false .push (zP (vNot (.l 0)))) ((zP (vPick (.l 4) (.k (.bool true)) (.l 0))) k))))))
  (zCond (.l 0) (zExit 1) zSkip))
  (zSeq (zReg fun k => (zStep E (cy Y) ⟨.mapUp 249 (.v 3) (.v 4) (.k (.bool true)), .none, none, false, 2, none⟩) k)
  (zSeq (zReg fun k => (zL 1 false (.v 5)) ((zCall (cy Y) 112 [(.l 0), (.v 4)] .push) ((zCall (cy Y) 171 [(.l 0)] .push) ((zCall (cy Y) 130 [(.l 0)] .push) k))))
  (zBlock 2 (zRange cy Y (.l 0) 2 [none, (some (.v 5)), none, (some (.v 6)), (some (.v 2))] [none, none, (some (.v 5)), none, none, none, (some (.v 6)), (some (.v 2)), none, none, none, none, none, none, none, none, none, none, none, none, none, none, none, none, none, none, none, none, none, none, none, none, none, none, none, none, none, none, none, none, none, none, none, none, none, none, none, none, none, none, none, none, none, none, none, none, none, none, none, none, none, none, none, none, none, none, none, none, none, none, none] [40] (codeAt [1, 1, 1, 0, 0, 0, 1, 0, 1, 1, 1, 1, 1, 0, 0] (bodyOf Tryz.f108)) (codeAt [1, 1, 1, 0, 0, 0, 1, 0, 1, 1, 1, 1, 1, 0, 1] (bodyOf Tryz.f108)))))))))))))
  (zSeq (zReg fun k => (zV 8 (vMv (.k (.sl 0 [] true)))) k)
  (zSeq (zSeq (zReg fun k => (zL 1 false (.v 6)) ((zStep E (cy Y) ⟨.ext (.range 249) [(.l 0)], (.var 7), none, false, 1, (some 0)⟩) k))
  (zBlock 4 (zLoop fuel (zSeq (zReg fun k => (zStep E (cy Y) ⟨.ext (.next false) [(.v 7)], .push, none, false, 0, none⟩) ((zP (vExtract 0 (.l 0))) k))
  (zSeq (zCond (.l 0) zSkip (zExit 4))
  (zBlock 5 (zSeq (zReg fun k => (zStep E (cy Y) ⟨.ext .entry [(.v 7)], .push, none, false, 0, none⟩) ((zP (vExtract 0 (.l 0))) ((zV 9 (vMv (.l 0))) k)))
  (zReg fun k => (zP (vMv (.v 8))) ((zStep E (cy Y) ⟨.buildSlice 34 1 [(0, (.v 9))], .push, none, false, 2, (some 0)⟩) ((zStep E (cy Y) ⟨.append 34 34 (.l 1) (.l 0), .push, none, false, 3, (some 1)⟩) ((zV 8 (vMv (.l 0))) k)))))))))))
  (zSeq (zReg fun k => (zCall (cy Y) 173 [(.v 8)] .push) k)
  (zSeq (zReg fun k => (zV 10 (vMv (.v 8))) k)
  zRet)))))))), [.tmp (.v 10)]⟩
theorem G108_ok (fn : Nat → Option Func) (pu : Nat → Bool) (pr : Nat → List AV → Option (Heap → Option (Eff × Acc))) : ZOk ⟨Tryz.tyT, fn, pu, pr⟩ npT F108 (G108 ⟨Tryz.tyT, fn, pu, pr⟩) := ⟨by kernel_rfl, by kernel_rfl, by kernel_rfl, fun cy Y k => by kernel_rfl⟩
noncomputable def F109 : FFn := cF LV 0 [3, 0, 1, 2, 7, 8] Tryz.f109
noncomputable def G109 (E : Env) : ZFn := ⟨30, [3, 0, 1, 2, 7, 8], fun cy Y fuel =>
  (zSeq (zReg fun k => (zStep E (cy Y) ⟨.box 38 (.v 0), (.var 4), none, false, 0, (some 0)⟩) ((zV 5 (vMv (.k (.sl 0 [] true)))) k))
  (zSeq (zReg fun k => (zP (vNilCheck (.v 1))) ((zP (vFieldAddr 5 (.l 0))) ((zL 1 false (.l 0)) ((zP (vInt E fAdd .add 33 false true (.l 0) (.k (.int .u64 1)))) ((zP (vNilCheck (.v 1))) ((zP (vFieldAddr 5 (.l 0))) ((zStep E (cy Y) ⟨.store 33 (.l 0) (.l 2), .none, none, false, 7, none⟩) k)))))))
  (zSeq (zDreg 1 fun n0 k => (zPD (vNilCheck (.v 1))) ((zPD (vFieldAddr 5 (.l 0))) ((zLD B24 5 1 false (.l 0)) ((zLD B24 7 5 true (.v 4)) ((zStepD E (cy Y) B24 n0 ⟨.build 113 [(0, (.v 2)), (1, (.l 1)), (2, (.v 3)), (3, (.l 0))], .push, none, false, 8, none⟩) ((zStepD E (cy Y) B24 n0 ⟨.box 113 (.l 0), .push, none, false, 9, (some 0)⟩) ((zPD (vNilCheck (.v 1))) ((zPD (vFieldAddr 8 (.l 0))) ((zStepD E (cy Y) B24 n0 ⟨.store 105 (.l 0) (.l 2), .none, none, false, 12, none⟩) k)))))))))
  (zSeq (zReg fun k => (zCall (cy Y) 49 [(.v 1)] .push) ((zV 5 (vMv (.l 0))) k))
  zRet)))), [.tmp (.v 5)]⟩
theorem G109_ok (fn : Nat → Option Func) (pu : Nat → Bool) (pr : Nat → List AV → Option (Heap → Option (Eff × Acc))) : ZOk ⟨Tryz.tyT, fn, pu, pr⟩ npT F109 (G109 ⟨Tryz.tyT, fn, pu, pr⟩) := ⟨by kernel_rfl, by kernel_rfl, by kernel_rfl, fun cy Y k => by kernel_rfl⟩
noncomputable def F110 : FFn := cF LV 0 [0, 1, 6, 7, 4, 5] Tryz.f110
noncomputable def G110 (E : Env) : ZFn := ⟨26, [0, 1, 6, 7, 4, 5], fun cy Y fuel =>
  (zSeq (zReg fun k => (zStep E (cy Y) ⟨.alloc 83, (.var 4), none, false, 0, (some 0)⟩) ((zV 5 (vMv (.k (.bool false)))) k))
  (zSeq (zReg fun k => (zP (vNilCheck (.v 0))) ((zP (vFieldAddr 1 (.l 0))) ((zL 1 false (.l 0)) ((zCall (cy Y) 78 [(.l 0), (.v 1)] .push) ((zP (vExtract 0 (.l 0))) ((zP (vExtract 1 (.l 1))) ((zStep E (cy Y) ⟨.alloc 83, (.var 2), none, false, 9, (some 1)⟩) ((zStep E (cy Y) ⟨.store 83 (.v 2) (.l 1), .none, none, false, 10, none⟩) ((zV 3 (vMv (.l 0))) k)))))))))
  (zSeq (zDreg 1 fun n0 k => (zLD B25 0 4 true (.v 2)) ((zGD (.v 3) true .push (zPD (vMv (.v 0)))) ((zGD (.v 3) true .push (zPD (vNilCheck (.l 0)))) ((zGD (.v 3) true .push (zPD (vFieldAddr 1 (.l 0)))) ((zGD (.v 3) true .push (zLD B25 6 1 false (.l 0))) ((zGD (.v 3) true .push (zStepD E (cy Y) B25 n0 ⟨.call 75 [(.l 0)], .push, none, false, 7, (some 0)⟩)) ((zPD (vPick (.v 3) (.l 0) (.k (.bool false)))) ((zStepD E (cy Y) B25 n0 ⟨.store 83 (.v 4) (.l 6), .none, none, false, 9, none⟩) ((zVD 5 (vMv (.l 0))) k)))))))))
  zRet))), [.cell (.v 4) 83, .tmp (.v 5)]⟩
theorem G110_ok (fn : Nat → Option Func) (pu : Nat → Bool) (pr : Nat → List AV → Option (Heap → Option (Eff × Acc))) : ZOk ⟨Tryz.tyT, fn, pu, pr⟩ npT F110 (G110 ⟨Tryz.tyT, fn, pu, pr⟩) := ⟨by kernel_rfl, by kernel_rfl, by kernel_rfl, fun cy Y k => by kernel_rfl⟩
noncomputable def F111 : FFn := cF LV 3 [0, 2, 4, 5, 1, 6] Tryz.f111
noncomputable def G111 (E : Env) : ZFn := ⟨33, [0, 2, 4, 5, 1, 6], fun cy Y fuel =>
  (zSeq (zReg fun k => (zStep E (cy Y) ⟨.box 81 (.v 0), (.var 1), none, false, 0, (some 0)⟩) ((zStep E (cy Y) ⟨.alloc 38, (.var 2), none, false, 1, (some 1)⟩) ((zStep E (cy Y) ⟨.alloc 55, (.var 3), none, false, 2, (some 2)⟩) k)))
  (zSeq (zSeq (zReg fun k => (zL 2 true (.v 1)) ((zCall (cy Y) 158 [(.l 0)] .push) ((zP (vNot (.l 0))) k)))
  (zCond (.l 0) (zSeq (zReg fun k => (zStep E (cy Y) ⟨.build 38 [], .push, none, false, 0, none⟩) ((zStep E (cy Y) ⟨.mkIface 66 (.k (.int .i64 14)), .push, none, false, 1, none⟩) ((zStep E (cy Y) ⟨.store 38 (.v 2) (.l 1), .none, none, false, 2, none⟩) ((zStep E (cy Y) ⟨.store 55 (.v 3) (.l 0), .none, none, false, 3, none⟩) k))))
  zRet) zSkip))
  (zSeq (zReg fun k => (zL 2 true (.v 1)) ((zStep E (cy Y) ⟨.call 95 [(.l 0)], .push, none, false, 1, (some 0)⟩) ((zStep E (cy Y) ⟨.alloc 38, (.var 5), none, false, 2, (some 1)⟩) ((zStep E (cy Y) ⟨.store 38 (.v 5) (.l 0), .none, none, false, 3, none⟩) k))))
  (zSeq (zSeq (zReg fun k => (zCall (cy Y) 174 [(.v 4)] .push) k)
  (zBlock 0 (zRange cy Y (.l 0) 3 [none, (some (.v 1)), (some (.v 5)), none, none, (some (.v 2)), (some (.v 3)), none] [none, none, (some (.v 1)), none, (some (.v 2)), (some (.v 3)), (some (.v 5)), none, none, none, none, none, none, none, none, none, none, none, none, none, none, none, none, none, none, none, none, none, none, none, none, none, none] [19] (codeAt [1, 1, 1, 0, 1, 0, 0] (bodyOf Tryz.f111)) (codeAt [1, 1, 1, 0, 1, 0, 1] (bodyOf Tryz.f111)))))
  (zSeq (zReg fun k => (zL 5 true (.v 5)) ((zStep E (cy Y) ⟨.store 38 (.v 2) (.l 0), .none, none, false, 1, none⟩) ((zStep E (cy Y) ⟨.store 55 (.v 3) (.k .nilIface), .none, none, false, 2, none⟩) k)))
  zRet))))), [.cell (.v 2) 38, .cell (.v 3) 55]⟩
theorem G111_ok (fn : Nat → Option Func) (pu : Nat → Bool) (pr : Nat → List AV → Option (Heap → Option (Eff × Acc))) : ZOk ⟨Tryz.tyT, fn, pu, pr⟩ npT F111 (G111 ⟨Tryz.tyT, fn, pu, pr⟩) := ⟨by kernel_rfl, by kernel_rfl, by kernel_rfl, fun cy Y k => by kernel_rfl⟩
noncomputable def F112 : FFn := cF LV 0 [0, 1, 4] Tryz.f112
noncomputable def G112 (E : Env) : ZFn := ⟨11, [0, 1, 4], fun cy Y fuel =>
  (zSeq (zReg fun k => (zStep E (cy Y) ⟨.alloc 38, (.var 2), none, false, 0, (some 0)⟩) k)
  (zSeq (zReg fun k => (zP (vNilCheck (.v 0))) ((zP (vFieldAddr 1 (.l 0))) ((zL 1 false (.l 0)) ((zCall (cy Y) 46 [(.l 0), (.v 1)] .push) ((zStep E (cy Y) ⟨.store 38 (.v 2) (.l 0), .none, none, false, 6, none⟩) k)))))
  zRet)), [.cell (.v 2) 38]⟩
theorem G112_ok (fn : Nat → Option Func) (pu : Nat → Bool) (pr : Nat → List AV → Option (Heap → Option (Eff × Acc))) : ZOk ⟨Tryz.tyT, fn, pu, pr⟩ npT F112 (G112 ⟨Tryz.tyT, fn, pu, pr⟩) := ⟨by kernel_rfl, by kernel_rfl, by kernel_rfl, fun cy Y k => by kernel_rfl⟩
noncomputable def F113 : FFn := cF LV 0 [0, 4, 2, 5, 3] Tryz.f113
noncomputable def G113 (E : Env) : ZFn := ⟨28, [0, 4, 2, 5, 3], fun cy Y fuel =>
  (zSeq (zReg fun k => (zStep E (cy Y) ⟨.alloc 122, (.var 2), none, false, 0, (some 0)⟩) ((zV 4 (vMv (.k (.bool false)))) k))
  (zSeq (zReg fun k => (zStep E (cy Y) ⟨.alloc 122, (.var 1), none, false, 0, (some 0)⟩) k)
  (zSeq (zSeq (zReg fun k => (zP (vNilCheck (.v 0))) ((zP (vFieldAddr 0 (.l 0))) ((zL 1 false (.l 0)) ((zP (vLenL (.l 0))) ((zP (vInt E fEql .eql 3 false true (.l 0) (.k (.int .i64 0)))) k)))))
  (zCond (.l 0) (zSeq (zReg fun k => (zL 6 true (.v 1)) ((zStep E (cy Y) ⟨.store 122 (.v 2) (.l 0), .none, none, false, 1, none⟩) ((zV 4 (vMv (.k (.bool false)))) k)))
  zRet) zSkip))
  (zSeq (zReg fun k => (zP (vNilCheck (.v 0))) ((zP (vFieldAddr 0 (.l 0))) ((zL 1 false (.l 0)) ((zP (vIndexAddr 6 (.l 0) (.k (.int .i64 0)))) ((zL 6 true (.l 0)) ((zStep E (cy Y) ⟨.alloc 122, (.var 3), none, false, 6, (some 0)⟩) ((zStep E (cy Y) ⟨.store 122 (.v 3) (.l 0), .none, none, false, 7, none⟩) k)))))))
  (zSeq (zReg fun k => (zP (vNilCheck (.v 0))) ((zP (vFieldAddr 0 (.l 0))) ((zL 1 false (.l 0)) ((zStep E (cy Y) ⟨.slice 39 (.l 0) (some (.k (.int .i64 1))) none none, .push, none, false, 5, none⟩) ((zP (vNilCheck (.v 0))) ((zP (vFieldAddr 0 (.l 0))) ((zStep E (cy Y) ⟨.store 39 (.l 0) (.l 2), .none, none, false, 8, none⟩) k)))))))
  (zSeq (zReg fun k => (zL 6 true (.v 3)) ((zStep E (cy Y) ⟨.store 122 (.v 2) (.l 0), .none, none, false, 1, none⟩) ((zV 4 (vMv (.k (.bool true)))) k)))
  zRet)))))), [.cell (.v 2) 122, .tmp (.v 4)]⟩
theorem G113_ok (fn : Nat → Option Func) (pu : Nat → Bool) (pr : Nat → List AV → Option (Heap → Option (Eff × Acc))) : ZOk ⟨Tryz.tyT, fn, pu, pr⟩ npT F113 (G113 ⟨Tryz.tyT, fn, pu, pr⟩) := ⟨by kernel_rfl, by kernel_rfl, by kernel_rfl, fun cy Y k => by kernel_rfl⟩
noncomputable def F114 : FFn := cF LV 0 [2, 0, 1, 5, 8, 6, 9, 27, 11, 7] Tryz.f114
noncomputable def G114 (E : Env) : ZFn := ⟨100, [2, 0, 1, 5, 8, 6, 9, 27, 11, 7], fun cy Y fuel =>
  (zSeq (zReg fun k => (zStep E (cy Y) ⟨.box 38 (.v 0), (.var 3), none, false, 0, (some 0)⟩) ((zStep E (cy Y) ⟨.alloc 38, (.var 5), none, false, 1, (some 1)⟩) ((zV 9 (vMv (.k .nilIface))) k)))
  (zSeq (zSeq (zReg fun k => (zL 5 true (.v 3)) ((zCall (cy Y) 115 [(.v 1), (.v 2), (.l 0)] .push) ((zV 4 (vMv (.l 0))) k)))
  (zSeq (zReg fun k => (zP (vInt E fNeq .neq 55 false true (.v 4) (.k .nilIface))) k)
  (zCond (.l 0) (zSeq (zReg fun k => (zL 5 true (.v 3)) ((zStep E (cy Y) ⟨.store 38 (.v 5) (.l 0), .none, none, false, 2, none⟩) ((zV 9 (vMv (.v 4))) k)))
  zRet) zSkip)))
  (zSeq (zReg fun k => (zCall (cy Y) 110 [(.v 1), (.v 2)] .push) ((zP (vExtract 0 (.l 0))) ((zP (vExtract 1 (.l 1))) ((zStep E (cy Y) ⟨.alloc 83, (.var 6), none, false, 6, (some 1)⟩) ((zStep E (cy Y) ⟨.store 83 (.v 6) (.l 1), .none, none, false, 7, none⟩) ((zP (vMv (.l 0))) k))))))
  (zSeq (zReg fun k => (zV 8 (vMv (.k .nilIface))) k)
  (zSeq (zSeq (zReg fun k => (zP (vFieldAddr 1 (.v 6))) ((zDstW (.var 7) (wLoad 1 false (.l 0))) k))
  (zBlock 0 (zSeq (zReg fun k => (zP (vInt E fEql .eql 3 false true (.v 7) (.k (.int .i64 2)))) ((zP (vMv (.l 0))) k))
  (zCond (.l 0) (zDreg 2 fun n0 k => (zPD (vNilCheck (.v 1))) ((zPD (vFieldAddr 4 (.l 0))) ((zLD B26 3 1 false (.l 0)) ((zCallD (cy Y) B26 5 112 [(.l 0), (.v 2)] .push) ((zPD (vNilCheck (.v 1))) ((zPD (vFieldAddr 0 (.l 0))) ((zLD B26 9 1 false (.l 0)) ((zPD (vFieldAddr 2 (.v 3))) ((zLD B26 11 1 false (.l 0)) ((zPD (vIndexAddr 1 (.l 0) (.k (.int .i64 0)))) ((zLD B26 13 1 false (.l 0)) ((zCallD (cy Y) B26 14 175 [(.l 7), (.l 4), (.l 0)] .push) ((zPD (vExtract 0 (.l 0))) ((zPD (vExtract 1 (.l 1))) ((zStepD E (cy Y) B26 n0 ⟨.store 38 (.v 3) (.l 1), .none, none, false, 18, none⟩) ((zVD 8 (vMv (.l 0))) k)))))))))))))))) (zSeq (zReg fun k => (zP (vInt E fEql .eql 3 false true (.v 7) (.k (.int .i64 3)))) ((zP (vMv (.l 0))) k))
  (zCond (.l 0) (zDreg 4 fun n0 k => (zPD (vFieldAddr 2 (.v 6))) ((zLD B27 1 2 true (.l 0)) ((zCallD (cy Y) B27 2 177 [(.l 0)] .push) ((zPD (vNilCheck (.v 1))) ((zPD (vFieldAddr 4 (.l 0))) ((zLD B27 6 1 false (.l 0)) ((zCallD (cy Y) B27 8 112 [(.l 0), (.v 2)] .push) ((zPD (vNilCheck (.v 1))) ((zPD (vFieldAddr 0 (.l 0))) ((zLD B27 12 1 false (.l 0)) ((zPD (vNilCheck (.v 1))) ((zPD (vFieldAddr 4 (.l 0))) ((zLD B27 16 1 false (.l 0)) ((zCallD (cy Y) B27 18 178 [(.l 0), (.v 2)] .push) ((zLD B27 19 5 true (.v 3)) ((zCallD (cy Y) B27 20 176 [(.l 12), (.l 8), (.l 5), (.l 1), (.l 0)] .push) ((zPD (vExtract 0 (.l 0))) ((zPD (vExtract 1 (.l 1))) ((zStepD E (cy Y) B27 n0 ⟨.store 38 (.v 3) (.l 1), .none, none, false, 24, none⟩) ((zVD 8 (vMv (.l 0))) k)))))))))))))))))))) zSkip))))))
  (zSeq (zSeq (zReg fun k => (zP (vInt E fEql .eql 55 false true (.v 8) (.k .nilIface))) k)
  (zCond (.l 0) (zDreg 1 fun n0 k => (zPD (vNilCheck (.v 1))) ((zPD (vFieldAddr 4 (.l 0))) ((zLD B28 3 1 false (.l 0)) ((zLD B28 5 5 true (.v 3)) ((zCallD (cy Y) B28 6 105 [(.l 1), (.v 2), (.l 0)] .push) ((zVD 8 (vMv (.l 0))) k)))))) zSkip))
  (zSeq (zSeq (zReg fun k => (zP (vInt E fNeq .neq 55 false true (.v 8) (.k .nilIface))) k)
  (zCond (.l 0) (zSeq (zReg fun k => (zL 5 true (.v 3)) ((zStep E (cy Y) ⟨.store 38 (.v 5) (.l 0), .none, none, false, 2, none⟩) ((zV 9 (vMv (.v 8))) k)))
  zRet) zSkip))
  (zSeq (zDreg 2 fun n0 k => (zPD (vNilCheck (.v 1))) ((zPD (vFieldAddr 7 (.l 0))) ((zLD B29 4 1 false (.l 0)) ((zLD B29 6 5 true (.v 3)) ((zStepD E (cy Y) B29 n0 ⟨.build 122 [(0, (.v 2)), (1, (.l 0))], .push, none, false, 7, none⟩) ((zStepD E (cy Y) B29 n0 ⟨.buildSlice 39 1 [(0, (.l 0))], .push, none, false, 8, (some 0)⟩) ((zStepD E (cy Y) B29 n0 ⟨.append 39 39 (.l 3) (.l 0), .push, none, false, 9, (some 1)⟩) ((zPD (vNilCheck (.v 1))) ((zPD (vFieldAddr 7 (.l 0))) ((zStepD E (cy Y) B29 n0 ⟨.store 39 (.l 0) (.l 2), .none, none, false, 12, none⟩) k))))))))))
  (zSeq (zReg fun k => (zL 5 true (.v 3)) ((zStep E (cy Y) ⟨.store 38 (.v 5) (.l 0), .none, none, false, 1, none⟩) ((zV 9 (vMv (.k .nilIface))) k)))
  zRet))))))))), [.cell (.v 5) 38, .tmp (.v 9)]⟩
theorem G114_ok (fn : Nat → Option Func) (pu : Nat → Bool) (pr : Nat → List AV → Option (Heap → Option (Eff × Acc))) : ZOk ⟨Tryz.tyT, fn, pu, pr⟩ npT F114 (G114 ⟨Tryz.tyT, fn, pu, pr⟩) := ⟨by kernel_rfl, by kernel_rfl, by kernel_rfl, fun cy Y k => by kernel_rfl⟩
noncomputable def F115 : FFn := cF LV 0 [2, 0, 1, 7, 17, 5, 9, 6] Tryz.f115
noncomputable def G115 (E : Env) : ZFn := ⟨40, [2, 0, 1, 7, 17, 5, 9, 6], fun cy Y fuel =>
  (zSeq (zReg fun k => (zStep E (cy Y) ⟨.box 38 (.v 0), (.var 5), none, false, 0, (some 0)⟩) ((zV 7 (vMv (.k .nilIface))) k))
  (zSeq (zReg fun k => (zCall (cy Y) 110 [(.v 1), (.v 2)] .push) ((zP (vExtract 0 (.l 0))) ((zP (vExtract 1 (.l 1))) ((zStep E (cy Y) ⟨.alloc 83, (.var 3), none, false, 6, (some 1)⟩) ((zStep E (cy Y) ⟨.store 83 (.v 3) (.l 1), .none, none, false, 7, none⟩) ((zP (vMv (.l 0))) k))))))
  (zSeq (zReg fun k => (zV 6 (vMv (.k (.bool false)))) k)
  (zSeq (zSeq (zReg fun k => (zP (vFieldAddr 1 (.v 3))) ((zDstW (.var 4) (wLoad 1 false (.l 0))) k))
  (zBlock 0 (zSeq (zReg fun k => (zP (vInt E fEql .eql 3 false true (.v 4) (.k (.int .i64 1)))) ((zP (vMv (.l 0))) k))
  (zCond (.l 0) (zReg fun k => (zP (vFieldAddr 2 (.v 3))) ((zL 2 true (.l 0)) ((zL 5 true (.v 5)) ((zStep E (cy Y) ⟨.call 141 [(.l 1), (.l 0)], .push, none, false, 3, (some 0)⟩) ((zV 6 (vMv (.l 0))) k))))) (zSeq (zReg fun k => (zP (vInt E fEql .eql 3 false true (.v 4) (.k (.int .i64 2)))) ((zP (vMv (.l 0))) k))
  (zCond (.l 0) (zReg fun k => (zP (vFieldAddr 2 (.v 5))) ((zL 1 false (.l 0)) ((zP (vLenL (.l 0))) ((zP (vInt E fEql .eql 3 false true (.l 0) (.k (.int .i64 1)))) ((zV 6 (vMv (.l 0))) k))))) (zSeq (zReg fun k => (zP (vInt E fEql .eql 3 false true (.v 4) (.k (.int .i64 3)))) ((zP (vMv (.l 0))) k))
  (zCond (.l 0) (zDreg 2 fun n0 k => (zPD (vFieldAddr 2 (.v 3))) ((zLD B30 1 2 true (.l 0)) ((zCallD (cy Y) B30 2 177 [(.l 0)] .push) ((zLD B30 3 5 true (.v 5)) ((zStepD E (cy Y) B30 n0 ⟨.call 141 [(.l 1), (.l 0)], .push, none, false, 4, (some 1)⟩) ((zVD 6 (vMv (.l 0))) k)))))) zSkip))))))))
  (zSeq (zSeq (zReg fun k => (zP (vNot (.v 6))) k)
  (zCond (.l 0) (zSeq (zReg fun k => (zStep E (cy Y) ⟨.mkIface 66 (.k (.int .i64 14)), .push, none, false, 0, none⟩) ((zV 7 (vMv (.l 0))) k))
  zRet) zSkip))
  (zSeq (zReg fun k => (zV 7 (vMv (.k .nilIface))) k)
  zRet)))))), [.tmp (.v 7)]⟩
theorem G115_ok (fn : Nat → Option Func) (pu : Nat → Bool) (pr : Nat → List AV → Option (Heap → Option (Eff × Acc))) : ZOk ⟨Tryz.tyT, fn, pu, pr⟩ npT F115 (G115 ⟨Tryz.tyT, fn, pu, pr⟩) := ⟨by kernel_rfl, by kernel_rfl, by kernel_rfl, fun cy Y k => by kernel_rfl⟩
noncomputable def F117 : FFn := cF LV 0 [0, 2, 1, 6, 5, 4] Tryz.f117
noncomputable def G117 (E : Env) : ZFn := ⟨18, [0, 2, 1, 6, 5, 4], fun cy Y fuel =>
  (zSeq (zReg fun k => (zStep E (cy Y) ⟨.box 26 (.v 0), (.var 1), none, false, 0, (some 0)⟩) ((zV 5 (vMv (.k (.int .i64 0)))) k))
  (zSeq (zReg fun k => (zL 2 true (.v 1)) ((zCall (cy Y) 184 [(.l 0), (.v 2)] .push) ((zP (vExtract 0 (.l 0))) ((zP (vExtract 1 (.l 1))) ((zStep E (cy Y) ⟨.alloc 131, (.var 4), none, false, 6, (some 1)⟩) ((zStep E (cy Y) ⟨.store 131 (.v 4) (.l 1), .none, none, false, 7, none⟩) ((zV 3 (vMv (.l 0))) k)))))))
  (zSeq (zSeq (zReg fun k => (zP (vNot (.v 3))) k)
  (zCond (.l 0) (zSeq (zReg fun k => (zV 5 (vMv (.k (.int .i64 2)))) k)
  zRet) zSkip))
  (zSeq (zReg fun k => (zP (vFieldAddr 2 (.v 4))) ((zL 1 false (.l 0)) ((zP (vConv .i64 (.l 0))) ((zV 5 (vMv (.l 0))) k))))
  zRet)))), [.tmp (.v 5)]⟩
theorem G117_ok (fn : Nat → Option Func) (pu : Nat → Bool) (pr : Nat → List AV → Option (Heap → Option (Eff × Acc))) : ZOk ⟨Tryz.tyT, fn, pu, pr⟩ npT F117 (G117 ⟨Tryz.tyT, fn, pu, pr⟩) := ⟨by kernel_rfl, by kernel_rfl, by kernel_rfl, fun cy Y k => by kernel_rfl⟩
noncomputable def F121 : FFn := cF LV 0 [0, 1, 9, 8, 7, 5, 3, 2] Tryz.f121
noncomputable def G121 (E : Env) : ZFn := ⟨24, [0, 1, 9, 8, 7, 5, 3, 2], fun cy Y fuel =>
  (zSeq (zReg fun k => (zStep E (cy Y) ⟨.box 26 (.v 0), (.var 1), none, false, 0, (some 0)⟩) ((zV 7 (vMv (.k (.sl 0 [] true)))) k))
  (zSeq (zReg fun k => (zV 6 (vMv (.k (.sl 0 [] true)))) k)
  (zSeq (zSeq (zReg fun k => (zP (vFieldAddr 0 (.v 1))) ((zDstW (.var 4) (wLoad 1 false (.l 0))) ((zV 3 (vLenL (.v 4))) ((zV 2 (vMv (.k (.int .i64 0)))) k))))
  (zBlock 0 (zLoop fuel (zSeq (zReg fun k => (zP (vInt E fLss .lss 3 false false (.v 2) (.v 3))) k)
  (zSeq (zCond (.l 0) zSkip (zExit 0))
  (zSeq (zBlock 1 (zSeq (zReg fun k => (zP (vIndexAddr 2 (.v 4) (.v 2))) ((zL 2 true (.l 0)) ((zStep E (cy Y) ⟨.alloc 77, (.var 5), none, false, 2, (some 0)⟩) ((zStep E (cy Y) ⟨.store 77 (.v 5) (.l 0), .none, none, false, 3, none⟩) k))))
  (zSeq (zReg fun k => (zP (vFieldAddr 1 (.v 5))) ((zL 1 false (.l 0)) ((zP (vInt E (fGen .rem) .rem 33 false true (.l 0) (.k (.int .u64 2)))) ((zP (vInt E fEql .eql 33 false true (.l 0) (.k (.int .u64 1)))) k))))
  (zCond (.l 0) (zReg fun k => (zP (vMv (.v 6))) ((zP (vFieldAddr 0 (.v 5))) ((zL 1 false (.l 0)) ((zStep E (cy Y) ⟨.buildSlice 98 1 [(0, (.l 0))], .push, none, false, 3, (some 0)⟩) ((zStep E (cy Y) ⟨.append 98 98 (.l 3) (.l 0), .push, none, false, 4, (some 1)⟩) ((zV 6 (vMv (.l 0))) k)))))) zSkip))))
  (zReg fun k => (zP (vInt E fAdd .add 3 false true (.v 2) (.k (.int .i64 1)))) ((zV 2 (vMv (.l 0))) k))))))))
  (zSeq (zReg fun k => (zV 7 (vMv (.v 6))) k)
  zRet)))), [.tmp (.v 7)]⟩
theorem G121_ok (fn : Nat → Option Func) (pu : Nat → Bool) (pr : Nat → List AV → Option (Heap → Option (Eff × Acc))) : ZOk ⟨Tryz.tyT, fn, pu, pr⟩ npT F121 (G121 ⟨Tryz.tyT, fn, pu, pr⟩) := ⟨by kernel_rfl, by kernel_rfl, by kernel_rfl, fun cy Y k => by kernel_rfl⟩
noncomputable def F130 : FFn := cF LV 0 [0, 1, 2] Tryz.f130
noncomputable def G130 (E : Env) : ZFn := ⟨4, [0, 1, 2], fun cy Y fuel =>
  (zSeq (zReg fun k => (zStep E (cy Y) ⟨.box 39 (.v 0), (.var 1), none, false, 0, (some 0)⟩) ((zV 2 (vMv (.k .nilFunc))) k))
  (zSeq (zReg fun k => (zStep E (cy Y) ⟨.mkFunc 195 [(.v 1)], .push, none, false, 0, none⟩) ((zV 2 (vMv (.l 0))) k))
  zRet)), [.tmp (.v 2)]⟩
theorem G130_ok (fn : Nat → Option Func) (pu : Nat → Bool) (pr : Nat → List AV → Option (Heap → Option (Eff × Acc))) : ZOk ⟨Tryz.tyT, fn, pu, pr⟩ npT F130 (G130 ⟨Tryz.tyT, fn, pu, pr⟩) := ⟨by kernel_rfl, by kernel_rfl, by kernel_rfl, fun cy Y k => by kernel_rfl⟩
noncomputable def F133 : FFn := cF LV 0 [0, 1, 2] Tryz.f133
noncomputable def G133 (E : Env) : ZFn := ⟨35, [0, 1, 2], fun cy Y fuel =>
  (zSeq (zReg fun k => (zStep E (cy Y) ⟨.box 81 (.v 0), (.var 1), none, false, 0, (some 0)⟩) ((zV 2 (vMv (.k (.int .i64 0)))) k))
  (zSeq (zBlock 0 (zSeq (zReg fun k => (zL 2 true (.v 1)) ((zCall (cy Y) 158 [(.l 0)] .push) ((zP (vNot (.l 0))) ((zP (vMv (.l 0))) k))))
  (zCond (.l 0) (zSeq (zReg fun k => (zV 2 (vMv (.k (.int .i64 0)))) k)
  zRet) (zSeq (zReg fun k => (zP (vFieldAddr 0 (.v 1))) ((zL 1 false (.l 0)) ((zP (vInt E fEql .eql 3 false true (.l 0) (.k (.int .i64 6)))) ((zP (vMv (.l 0))) k))))
  (zCond (.l 0) (zSeq (zReg fun k => (zV 2 (vMv (.k (.int .i64 2)))) k)
  zRet) (zSeq (zDreg 2 fun n0 k => (zPD (vFieldAddr 0 (.v 1))) ((zLD B31 1 1 false (.l 0)) ((zPD (vInt E fEql .eql 3 false true (.l 0) (.k (.int .i64 8)))) ((zGD (.l 0) true .push (zPD (vFieldAddr 1 (.v 1)))) ((zGD (.l 1) true .push (zLD B31 5 1 false (.l 0))) ((zGD (.l 2) true .push (zPD (vIndexAddr 2 (.l 0) (.k (.int .i64 0))))) ((zGD (.l 3) true .push (zPD (vFieldAddr 0 (.l 0)))) ((zGD (.l 4) true .push (zLD B31 8 1 false (.l 0))) ((zGD (.l 5) true .push (zPD (vInt E fEql .eql 3 false true (.l 0) (.k (.int .i64 5))))) ((zPD (vPick (.l 6) (.l 0) (.k (.bool false)))) ((zGD (.l 0) true .push (zLD B31 12 2 true (.v 1))) ((zGD (.l 1) true .push (zPD (vFieldAddr 1 (.v 1)))) ((zGD (.l 2) true .push (zLD B31 14 1 false (.l 0))) ((zGD (.l 3) true .push (zPD (vIndexAddr 2 (.l 0) (.k (.int .i64 0))))) ((zGD (.l 4) true .push (zPD (vFieldAddr 1 (.l 0)))) ((zGD (.l 5) true .push (zLD B31 17 1 false (.l 0))) ((zGD (.l 6) true .push (zPD (vIndexAddr 2 (.l 0) (.k (.int .i64 1))))) ((zGD (.l 7) true .push (zLD B31 19 2 true (.l 0))) ((zGD (.l 8) true .push (zCallD (cy Y) B31 20 200 [(.l 0)] .push)) ((zGD (.l 9) true .push (zCallD (cy Y) B31 21 199 [(.l 8), (.l 0)] .push)) ((zPD (vPick (.l 10) (.l 0) (.k (.bool false)))) ((zPD (vMv (.l 0))) k))))))))))))))))))))))
  (zCond (.l 0) (zSeq (zReg fun k => (zV 2 (vMv (.k (.int .i64 3)))) k)
  zRet) zSkip)))))))
  (zSeq (zReg fun k => (zV 2 (vMv (.k (.int .i64 1)))) k)
  zRet))), [.tmp (.v 2)]⟩
theorem G133_ok (fn : Nat → Option Func) (pu : Nat → Bool) (pr : Nat → List AV → Option (Heap → Option (Eff × Acc))) : ZOk ⟨Tryz.tyT, fn, pu, pr⟩ npT F133 (G133 ⟨Tryz.tyT, fn, pu, pr⟩) := ⟨by kernel_rfl, by kernel_rfl, by kernel_rfl, fun cy Y k => by kernel_rfl⟩
noncomputable def F134 : FFn := cF LV 0 [0, 1, 4] Tryz.f134
noncomputable def G134 (E : Env) : ZFn := ⟨9, [0, 1, 4], fun cy Y fuel =>
  (zSeq (zReg fun k => (zV 2 (vMv (.k (.bool false)))) k)
  (zSeq (zReg fun k => (zStep E (cy Y) ⟨.call 139 [(.v 0), (.v 1)], .push, none, false, 2, (some 0)⟩) ((zP (vInt E (fGen .geq) .geq 3 false true (.l 0) (.k (.int .i64 0)))) ((zV 2 (vMv (.l 0))) k)))
  zRet)), [.tmp (.v 2)]⟩
theorem G134_ok (fn : Nat → Option Func) (pu : Nat → Bool) (pr : Nat → List AV → Option (Heap → Option (Eff × Acc))) : ZOk ⟨Tryz.tyT, fn, pu, pr⟩ npT F134 (G134 ⟨Tryz.tyT, fn, pu, pr⟩) := ⟨by kernel_rfl, by kernel_rfl, by kernel_rfl, fun cy Y k => by kernel_rfl⟩
noncomputable def F135 : FFn := cF LV 0 [0, 2, 1, 3] Tryz.f135
noncomputable def G135 (E : Env) : ZFn := ⟨9, [0, 2, 1, 3], fun cy Y fuel =>
  (zSeq (zReg fun k => (zStep E (cy Y) ⟨.box 83 (.v 0), (.var 1), none, false, 0, (some 0)⟩) ((zV 3 (vMv (.k (.bool false)))) k))
  (zSeq (zReg fun k => (zP (vFieldAddr 0 (.v 1))) ((zL 1 false (.l 0)) ((zP (vFieldAddr 0 (.v 2))) ((zL 1 false (.l 0)) ((zP (vInt E fEql .eql 9 false false (.l 2) (.l 0))) ((zV 3 (vMv (.l 0))) k))))))
  zRet)), [.tmp (.v 3)]⟩
theorem G135_ok (fn : Nat → Option Func) (pu : Nat → Bool) (pr : Nat → List AV → Option (Heap → Option (Eff × Acc))) : ZOk ⟨Tryz.tyT, fn, pu, pr⟩ npT F135 (G135 ⟨Tryz.tyT, fn, pu, pr⟩) := ⟨by kernel_rfl, by kernel_rfl, by kernel_rfl, fun cy Y k => by kernel_rfl⟩
noncomputable def F136 : FFn := cF LV 0 [0, 1, 2, 3, 4] Tryz.f136
noncomputable def G136 (E : Env) : ZFn := ⟨38, [0, 1, 2, 3, 4], fun cy Y fuel =>
  (zSeq (zReg fun k => (zStep E (cy Y) ⟨.box 38 (.v 0), (.var 2), none, false, 0, (some 0)⟩) ((zStep E (cy Y) ⟨.box 38 (.v 1), (.var 3), none, false, 1, (some 1)⟩) ((zV 4 (vMv (.k (.bool false)))) k)))
  (zSeq (zReg fun k => (zP (vFieldAddr 0 (.v 2))) ((zL 1 false (.l 0)) ((zP (vFieldAddr 0 (.v 3))) ((zL 1 false (.l 0)) ((zP (vInt E fEql .eql 33 false false (.l 2) (.l 0))) ((zG (.l 0) true .push (zP (vFieldAddr 1 (.v 2)))) ((zG (.l 1) true .push (zL 1 false (.l 0))) ((zG (.l 2) true .push (zP (vFieldAddr 1 (.v 3)))) ((zG (.l 3) true .push (zL 1 false (.l 0))) ((zG (.l 4) true .push (zP (vInt E fEql .eql 33 false false (.l 2) (.l 0)))) ((zP (vPick (.l 5) (.l 0) (.k (.bool false)))) ((zG (.l 0) true .push (zP (vFieldAddr 2 (.v 2)))) ((zG (.l 1) true .push (zL 1 false (.l 0))) ((zG (.l 2) true .push (zP (vFieldAddr 2 (.v 3)))) ((zG (.l 3) true .push (zL 1 false (.l 0))) ((zG (.l 4) true .push (zCall (cy Y) 201 [(.l 2), (.l 0)] .push)) ((zP (vPick (.l 5) (.l 0) (.k (.bool false)))) ((zG (.l 0) true .push (zP (vFieldAddr 3 (.v 2)))) ((zG (.l 1) true .push (zL 1 false (.l 0))) ((zG (.l 2) true .push (zP (vFieldAddr 3 (.v 3)))) ((zG (.l 3) true .push (zL 1 false (.l 0))) ((zG (.l 4) true .push (zCall (cy Y) 202 [(.l 2), (.l 0), (.k (.clo 203 []))] .push)) ((zP (vPick (.l 5) (.l 0) (.k (.bool false)))) ((zG (.l 0) true .push (zP (vFieldAddr 4 (.v 2)))) ((zG (.l 1) true .push (zL 1 false (.l 0))) ((zG (.l 2) true .push (zP (vFieldAddr 4 (.v 3)))) ((zG (.l 3) true .push (zL 1 false (.l 0))) ((zG (.l 4) true .push (zCall (cy Y) 204 [(.l 2), (.l 0), (.k (.clo 136 []))] .push)) ((zP (vPick (.l 5) (.l 0) (.k (.bool false)))) ((zV 4 (vMv (.l 0))) k))))))))))))))))))))))))))))))
  zRet)), [.tmp (.v 4)]⟩
theorem G136_ok (fn : Nat → Option Func) (pu : Nat → Bool) (pr : Nat → List AV → Option (Heap → Option (Eff × Acc))) : ZOk ⟨Tryz.tyT, fn, pu, pr⟩ npT F136 (G136 ⟨Tryz.tyT, fn, pu, pr⟩) := ⟨by kernel_rfl, by kernel_rfl, by kernel_rfl, fun cy Y k => by kernel_rfl⟩
noncomputable def F137 : FFn := cF LV 0 [0, 1, 2, 3, 4] Tryz.f137
noncomputable def G137 (E : Env) : ZFn := ⟨17, [0, 1, 2, 3, 4], fun cy Y fuel =>
  (zSeq (zReg fun k => (zStep E (cy Y) ⟨.box 26 (.v 0), (.var 2), none, false, 0, (some 0)⟩) ((zStep E (cy Y) ⟨.box 26 (.v 1), (.var 3), none, false, 1, (some 1)⟩) ((zV 4 (vMv (.k (.bool false)))) k)))
  (zSeq (zReg fun k => (zP (vFieldAddr 0 (.v 2))) ((zL 1 false (.l 0)) ((zP (vFieldAddr 0 (.v 3))) ((zL 1 false (.l 0)) ((zCall (cy Y) 205 [(.l 2), (.l 0)] .push) ((zG (.l 0) true .push (zP (vFieldAddr 1 (.v 2)))) ((zG (.l 1) true .push (zL 1 false (.l 0))) ((zG (.l 2) true .push (zP (vFieldAddr 1 (.v 3)))) ((zG (.l 3) true .push (zL 1 false (.l 0))) ((zG (.l 4) true .push (zCall (cy Y) 206 [(.l 2), (.l 0)] .push)) ((zP (vPick (.l 5) (.l 0) (.k (.bool false)))) ((zV 4 (vMv (.l 0))) k))))))))))))
  zRet)), [.tmp (.v 4)]⟩
theorem G137_ok (fn : Nat → Option Func) (pu : Nat → Bool) (pr : Nat → List AV → Option (Heap → Option (Eff × Acc))) : ZOk ⟨Tryz.tyT, fn, pu, pr⟩ npT F137 (G137 ⟨Tryz.tyT, fn, pu, pr⟩) := ⟨by kernel_rfl, by kernel_rfl, by kernel_rfl, fun cy Y k => by kernel_rfl⟩
noncomputable def F138 : FFn := cF LV 0 [0, 2] Tryz.f138
noncomputable def G138 (E : Env) : ZFn := ⟨6, [0, 2], fun cy Y fuel =>
  (zSeq (zReg fun k => (zV 1 (vMv (.k (.bool false)))) k)
  (zSeq (zReg fun k => (zCall (cy Y) 207 [(.v 0), (.k (.str [97, 98, 99, 100, 101, 102, 103, 104, 105, 106, 107, 108, 109, 110, 111, 112, 113, 114, 115, 116, 117, 118, 119, 120, 121, 122, 48, 49, 50, 51, 52, 53, 54, 55, 56, 57]))] .push) ((zP (vInt E fEql .eql 9 false true (.l 0) (.k (.str [])))) ((zV 1 (vMv (.l 0))) k)))
  zRet)), [.tmp (.v 1)]⟩
theorem G138_ok (fn : Nat → Option Func) (pu : Nat → Bool) (pr : Nat → List AV → Option (Heap → Option (Eff × Acc))) : ZOk ⟨Tryz.tyT, fn, pu, pr⟩ npT F138 (G138 ⟨Tryz.tyT, fn, pu, pr⟩) := ⟨by kernel_rfl, by kernel_rfl, by kernel_rfl, fun cy Y k => by kernel_rfl⟩
noncomputable def F139 : FFn := cF LV 0 [0, 8, 7, 1, 5, 4] Tryz.f139
noncomputable def G139 (E : Env) : ZFn := ⟨19, [0, 8, 7, 1, 5, 4], fun cy Y fuel =>
  (zSeq (zReg fun k => (zV 5 (vMv (.k (.int .i64 0)))) k)
  (zSeq (zSeq (zReg fun k => (zV 2 (vLenL (.v 0))) ((zV 1 (vMv (.k (.int .i64 0)))) k))
  (zBlock 0 (zLoop fuel (zSeq (zReg fun k => (zP (vInt E fLss .lss 3 false false (.v 1) (.v 2))) k)
  (zSeq (zCond (.l 0) zSkip (zExit 0))
  (zSeq (zBlock 1 (zSeq (zReg fun k => (zV 4 (vMv (.v 1))) k)
  (zSeq (zReg fun k => (zP (vIndexAddr 4 (.v 0) (.v 4))) ((zL 4 true (.l 0)) ((zStep E (cy Y) ⟨.callv (.v 3) [(.l 0)], .push, none, false, 5, (some 0)⟩) k)))
  (zCond (.l 0) (zSeq (zReg fun k => (zV 5 (vMv (.v 4))) k)
  zRet) zSkip))))
  (zReg fun k => (zP (vInt E fAdd .add 3 false true (.v 1) (.k (.int .i64 1)))) ((zV 1 (vMv (.l 0))) k))))))))
  (zSeq (zReg fun k => (zV 5 (vMv (.k (.int .i64 (-1))))) k)
  zRet))), [.tmp (.v 5)]⟩
theorem G139_ok (fn : Nat → Option Func) (pu : Nat → Bool) (pr : Nat → List AV → Option (Heap → Option (Eff × Acc))) : ZOk ⟨Tryz.tyT, fn, pu, pr⟩ npT F139 (G139 ⟨Tryz.tyT, fn, pu, pr⟩) := ⟨by kernel_rfl, by kernel_rfl, by kernel_rfl, fun cy Y k => by kernel_rfl⟩
noncomputable def F140 : FFn := cF LV 0 [0, 2, 1, 3] Tryz.f140
noncomputable def G140 (E : Env) : ZFn := ⟨9, [0, 2, 1, 3], fun cy Y fuel =>
  (zSeq (zReg fun k => (zStep E (cy Y) ⟨.box 83 (.v 0), (.var 1), none, false, 0, (some 0)⟩) ((zV 3 (vMv (.k (.bool false)))) k))
  (zSeq (zDreg 0 fun n0 k => (zPD (vFieldAddr 0 (.v 1))) ((zLD B32 1 1 false (.l 0)) ((zLD B32 2 1 false (.v 2)) ((zStepD E (cy Y) B32 n0 ⟨.slice 9 (.l 0) none (some (.k (.int .i64 1))) none, .push, none, false, 3, none⟩) ((zPD (vInt E fEql .eql 9 false false (.l 2) (.l 0))) ((zVD 3 (vMv (.l 0))) k))))))
  zRet)), [.tmp (.v 3)]⟩
theorem G140_ok (fn : Nat → Option Func) (pu : Nat → Bool) (pr : Nat → List AV → Option (Heap → Option (Eff × Acc))) : ZOk ⟨Tryz.tyT, fn, pu, pr⟩ npT F140 (G140 ⟨Tryz.tyT, fn, pu, pr⟩) := ⟨by kernel_rfl, by kernel_rfl, by kernel_rfl, fun cy Y k => by kernel_rfl⟩
noncomputable def F141 : FFn := cF LV 0 [0, 1, 2, 3, 4] Tryz.f141
noncomputable def G141 (E : Env) : ZFn := ⟨12, [0, 1, 2, 3, 4], fun cy Y fuel =>
  (zSeq (zReg fun k => (zStep E (cy Y) ⟨.box 81 (.v 0), (.var 2), none, false, 0, (some 0)⟩) ((zStep E (cy Y) ⟨.box 38 (.v 1), (.var 3), none, false, 1, (some 1)⟩) ((zV 4 (vMv (.k (.bool false)))) k)))
  (zSeq (zReg fun k => (zL 2 true (.v 2)) ((zCall (cy Y) 158 [(.l 0)] .push) ((zG (.l 0) true .push (zL 2 true (.v 2))) ((zG (.l 1) true .push (zL 5 true (.v 3))) ((zG (.l 2) true .push (zCall (cy Y) 208 [(.l 1), (.l 0)] .push)) ((zP (vPick (.l 3) (.l 0) (.k (.bool false)))) ((zV 4 (vMv (.l 0))) k)))))))
  zRet)), [.tmp (.v 4)]⟩
theorem G141_ok (fn : Nat → Option Func) (pu : Nat → Bool) (pr : Nat → List AV → Option (Heap → Option (Eff × Acc))) : ZOk ⟨Tryz.tyT, fn, pu, pr⟩ npT F141 (G141 ⟨Tryz.tyT, fn, pu, pr⟩) := ⟨by kernel_rfl, by kernel_rfl, by kernel_rfl, fun cy Y k => by kernel_rfl⟩
noncomputable def F142 : FFn := cF LV 4 [0, 2] Tryz.f142
noncomputable def G142 (E : Env) : ZFn := ⟨12, [0, 2], fun cy Y fuel =>
  (zSeq (zReg fun k => (zStep E (cy Y) ⟨.alloc 4, (.var 1), none, false, 0, (some 0)⟩) k)
  (zSeq (zSeq (zReg fun k => (zCall (cy Y) 209 [(.v 0)] .push) k)
  (zBlock 0 (zRange cy Y (.l 0) 4 [none, none, none, none, (some (.v 1))] [none, none, (some (.v 1)), none, none, none, none, none, none, none, none, none] [7, 8] (codeAt [1, 0, 1, 0, 0] (bodyOf Tryz.f142)) (codeAt [1, 0, 1, 0, 1] (bodyOf Tryz.f142)))))
  (zSeq (zReg fun k => (zStep E (cy Y) ⟨.store 4 (.v 1) (.k (.bool true)), .none, none, false, 0, none⟩) k)
  zRet))), [.cell (.v 1) 4]⟩
theorem G142_ok (fn : Nat → Option Func) (pu : Nat → Bool) (pr : Nat → List AV → Option (Heap → Option (Eff × Acc))) : ZOk ⟨Tryz.tyT, fn, pu, pr⟩ npT F142 (G142 ⟨Tryz.tyT, fn, pu, pr⟩) := ⟨by kernel_rfl, by kernel_rfl, by kernel_rfl, fun cy Y k => by kernel_rfl⟩
noncomputable def F143 : FFn := cF LV 0 [0, 1, 2, 3, 4] Tryz.f143
noncomputable def G143 (E : Env) : ZFn := ⟨9, [0, 1, 2, 3, 4], fun cy Y fuel =>
  (zSeq (zReg fun k => (zStep E (cy Y) ⟨.box 81 (.v 0), (.var 2), none, false, 0, (some 0)⟩) ((zStep E (cy Y) ⟨.box 38 (.v 1), (.var 3), none, false, 1, (some 1)⟩) ((zV 4 (vMv (.k (.bool false)))) k)))
  (zSeq (zDreg 2 fun n0 k => (zLD B33 0 2 true (.v 2)) ((zStepD E (cy Y) B33 n0 ⟨.call 95 [(.l 0)], .push, none, false, 1, (some 0)⟩) ((zLD B33 2 5 true (.v 3)) ((zStepD E (cy Y) B33 n0 ⟨.call 136 [(.l 1), (.l 0)], .push, none, false, 3, (some 1)⟩) ((zVD 4 (vMv (.l 0))) k)))))
  zRet)), [.tmp (.v 4)]⟩
theorem G143_ok (fn : Nat → Option Func) (pu : Nat → Bool) (pr : Nat → List AV → Option (Heap → Option (Eff × Acc))) : ZOk ⟨Tryz.tyT, fn, pu, pr⟩ npT F143 (G143 ⟨Tryz.tyT, fn, pu, pr⟩) := ⟨by kernel_rfl, by kernel_rfl, by kernel_rfl, fun cy Y k => by kernel_rfl⟩
noncomputable def F144 : FFn := cF LV 5 [0, 2, 1, 5, 3, 7, 6] Tryz.f144
noncomputable def G144 (E : Env) : ZFn := ⟨35, [0, 2, 1, 5, 3, 7, 6], fun cy Y fuel =>
  (zSeq (zReg fun k => (zStep E (cy Y) ⟨.box 31 (.v 0), (.var 4), none, false, 0, (some 0)⟩) ((zStep E (cy Y) ⟨.box 226 (.v 1), (.var 3), none, false, 1, (some 1)⟩) ((zStep E (cy Y) ⟨.alloc 4, (.var 6), none, false, 2, (some 2)⟩) k)))
  (zSeq (zReg fun k => (zStep E (cy Y) ⟨.alloc 9, (.var 5), none, false, 0, (some 0)⟩) ((zStep E (cy Y) ⟨.store 9 (.v 5) (.k (.str [])), .none, none, false, 1, none⟩) k))
  (zSeq (zSeq (zReg fun k => (zCall (cy Y) 130 [(.v 2)] .push) k)
  (zBlock 0 (zRange cy Y (.l 0) 5 [none, (some (.v 3)), none, (some (.v 4)), none, none, (some (.v 5)), (some (.v 6))] [none, none, none, (some (.v 4)), none, (some (.v 3)), (some (.v 6)), (some (.v 5)), none, none, none, none, none, none, none, none, none, none, none, none, none, none, none, none, none, none, none, none, none, none, none, none, none, none, none] [14] (codeAt [1, 1, 0, 1, 0, 0] (bodyOf Tryz.f144)) (codeAt [1, 1, 0, 1, 0, 1] (bodyOf Tryz.f144)))))
  (zSeq (zReg fun k => (zP (vLenL (.v 2))) ((zP (vInt E (fGen .leq) .leq 3 false true (.l 0) (.k (.int .i64 24)))) ((zStep E (cy Y) ⟨.store 4 (.v 6) (.l 0), .none, none, false, 3, none⟩) k)))
  zRet)))), [.cell (.v 6) 4]⟩
theorem G144_ok (fn : Nat → Option Func) (pu : Nat → Bool) (pr : Nat → List AV → Option (Heap → Option (Eff × Acc))) : ZOk ⟨Tryz.tyT, fn, pu, pr⟩ npT F144 (G144 ⟨Tryz.tyT, fn, pu, pr⟩) := ⟨by kernel_rfl, by kernel_rfl, by kernel_rfl, fun cy Y k => by kernel_rfl⟩
noncomputable def F146 : FFn := cF LV 0 [0, 1, 2] Tryz.f146
noncomputable def G146 (E : Env) : ZFn := ⟨4, [0, 1, 2], fun cy Y fuel =>
  (zSeq (zReg fun k => (zStep E (cy Y) ⟨.box 40 (.v 0), (.var 1), none, false, 0, (some 0)⟩) ((zV 2 (vMv (.k .nilFunc))) k))
  (zSeq (zReg fun k => (zStep E (cy Y) ⟨.mkFunc 210 [(.v 1)], .push, none, false, 0, none⟩) ((zV 2 (vMv (.l 0))) k))
  zRet)), [.tmp (.v 2)]⟩
theorem G146_ok (fn : Nat → Option Func) (pu : Nat → Bool) (pr : Nat → List AV → Option (Heap → Option (Eff × Acc))) : ZOk ⟨Tryz.tyT, fn, pu, pr⟩ npT F146 (G146 ⟨Tryz.tyT, fn, pu, pr⟩) := ⟨by kernel_rfl, by kernel_rfl, by kernel_rfl, fun cy Y k => by kernel_rfl⟩
noncomputable def F150 : FFn := cF LV 0 [0, 1, 2, 3, 4, 5, 6, 7] Tryz.f150
noncomputable def G150 (E : Env) : ZFn := ⟨26, [0, 1, 2, 3, 4, 5, 6, 7], fun cy Y fuel =>
  (zSeq (zReg fun k => (zStep E (cy Y) ⟨.box 81 (.v 0), (.var 3), none, false, 0, (some 0)⟩) ((zStep E (cy Y) ⟨.box 38 (.v 1), (.var 4), none, false, 1, (some 1)⟩) ((zStep E (cy Y) ⟨.box 38 (.v 2), (.var 5), none, false, 2, (some 2)⟩) ((zStep E (cy Y) ⟨.alloc 38, (.var 6), none, false, 3, (some 3)⟩) ((zV 7 (vMv (.k .nilIface))) k)))))
  (zSeq (zSeq (zReg fun k => (zL 2 true (.v 3)) ((zL 5 true (.v 4)) ((zStep E (cy Y) ⟨.call 141 [(.l 1), (.l 0)], .push, none, false, 2, (some 0)⟩) ((zP (vNot (.l 0))) ((zG (.l 0) false .push (zL 2 true (.v 3))) ((zG (.l 1) false .push (zL 5 true (.v 5))) ((zG (.l 2) false .push (zStep E (cy Y) ⟨.call 141 [(.l 1), (.l 0)], .push, none, false, 7, (some 1)⟩)) ((zG (.l 3) false .push (zP (vNot (.l 0)))) ((zP (vPick (.l 4) (.k (.bool true)) (.l 0))) k)))))))))
  (zCond (.l 0) (zSeq (zReg fun k => (zStep E (cy Y) ⟨.build 38 [], .push, none, false, 0, none⟩) ((zStep E (cy Y) ⟨.mkIface 66 (.k (.int .i64 14)), .push, none, false, 1, none⟩) ((zStep E (cy Y) ⟨.store 38 (.v 6) (.l 1), .none, none, false, 2, none⟩) ((zV 7 (vMv (.l 0))) k))))
  zRet) zSkip))
  (zSeq (zReg fun k => (zL 2 true (.v 3)) ((zL 5 true (.v 4)) ((zL 5 true (.v 5)) ((zCall (cy Y) 217 [(.l 2), (.l 1), (.l 0)] .push) ((zP (vExtract 0 (.l 0))) ((zP (vExtract 1 (.l 1))) ((zStep E (cy Y) ⟨.store 38 (.v 6) (.l 1), .none, none, false, 6, none⟩) ((zV 7 (vMv (.l 0))) k))))))))
  zRet))), [.cell (.v 6) 38, .tmp (.v 7)]⟩
theorem G150_ok (fn : Nat → Option Func) (pu : Nat → Bool) (pr : Nat → List AV → Option (Heap → Option (Eff × Acc))) : ZOk ⟨Tryz.tyT, fn, pu, pr⟩ npT F150 (G150 ⟨Tryz.tyT, fn, pu, pr⟩) := ⟨by kernel_rfl, by kernel_rfl, by kernel_rfl, fun cy Y k => by kernel_rfl⟩
noncomputable def F155 : FFn := cF LV 0 [0, 1, 2, 3, 4, 5, 9, 17, 8, 6, 7] Tryz.f155
noncomputable def G155 (E : Env) : ZFn := ⟨27, [0, 1, 2, 3, 4, 5, 9, 17, 8, 6, 7], fun cy Y fuel =>
  (zSeq (zReg fun k => (zStep E (cy Y) ⟨.box 81 (.v 0), (.var 3), none, false, 0, (some 0)⟩) ((zStep E (cy Y) ⟨.box 38 (.v 1), (.var 4), none, false, 1, (some 1)⟩) ((zStep E (cy Y) ⟨.box 38 (.v 2), (.var 5), none, false, 2, (some 2)⟩) ((zV 9 (vMv (.k (.bool false)))) ((zV 10 (vMv (.k .nilIface))) k)))))
  (zSeq (zReg fun k => (zL 2 true (.v 3)) ((zL 5 true (.v 4)) ((zL 5 true (.v 5)) ((zStep E (cy Y) ⟨.call 150 [(.l 2), (.l 1), (.l 0)], .push, none, false, 3, (some 0)⟩) ((zP (vExtract 0 (.l 0))) ((zP (vExtract 1 (.l 1))) ((zStep E (cy Y) ⟨.alloc 38, (.var 8), none, false, 7, (some 1)⟩) ((zStep E (cy Y) ⟨.store 38 (.v 8) (.l 1), .none, none, false, 8, none⟩) ((zV 6 (vMv (.l 0))) k)))))))))
  (zSeq (zSeq (zReg fun k => (zV 7 (vMv (.v 6))) k)
  (zBlock 0 (zSeq (zReg fun k => (zStep E (cy Y) ⟨.mkIface 66 (.k (.int .i64 14)), .push, none, false, 0, none⟩) ((zP (vInt E fEql .eql 55 false false (.v 7) (.l 0))) ((zP (vMv (.l 0))) k)))
  (zCond (.l 0) (zSeq (zReg fun k => (zStep E (cy Y) ⟨.mkIface 66 (.k (.int .i64 14)), .push, none, false, 0, none⟩) ((zV 9 (vMv (.k (.bool false)))) ((zV 10 (vMv (.l 0))) k)))
  zRet) (zSeq (zReg fun k => (zP (vInt E fEql .eql 55 false true (.v 7) (.k .nilIface))) ((zP (vMv (.l 0))) k))
  (zCond (.l 0) (zSeq (zReg fun k => (zL 5 true (.v 8)) ((zL 5 true (.v 5)) ((zStep E (cy Y) ⟨.call 136 [(.l 1), (.l 0)], .push, none, false, 2, (some 0)⟩) ((zV 9 (vMv (.l 0))) ((zV 10 (vMv (.k .nilIface))) k)))))
  zRet) zSkip))))))
  (zSeq (zReg fun k => (zV 9 (vMv (.k (.bool false)))) ((zV 10 (vMv (.k .nilIface))) k))
  zRet)))), [.tmp (.v 9), .tmp (.v 10)]⟩
theorem G155_ok (fn : Nat → Option Func) (pu : Nat → Bool) (pr : Nat → List AV → Option (Heap → Option (Eff × Acc))) : ZOk ⟨Tryz.tyT, fn, pu, pr⟩ npT F155 (G155 ⟨Tryz.tyT, fn, pu, pr⟩) := ⟨by kernel_rfl, by kernel_rfl, by kernel_rfl, fun cy Y k => by kernel_rfl⟩
noncomputable def F158 : FFn := cF LV 0 [0, 1, 2] Tryz.f158
noncomputable def G158 (E : Env) : ZFn := ⟨5, [0, 1, 2], fun cy Y fuel =>
  (zSeq (zReg fun k => (zStep E (cy Y) ⟨.box 81 (.v 0), (.var 1), none, false, 0, (some 0)⟩) ((zV 2 (vMv (.k (.bool false)))) k))
  (zSeq (zReg fun k => (zL 2 true (.v 1)) ((zCall (cy Y) 223 [(.l 0), (.k (.int .i64 16))] .push) ((zV 2 (vMv (.l 0))) k)))
  zRet)), [.tmp (.v 2)]⟩
theorem G158_ok (fn : Nat → Option Func) (pu : Nat → Bool) (pr : Nat → List AV → Option (Heap → Option (Eff × Acc))) : ZOk ⟨Tryz.tyT, fn, pu, pr⟩ npT F158 (G158 ⟨Tryz.tyT, fn, pu, pr⟩) := ⟨by kernel_rfl, by kernel_rfl, by kernel_rfl, fun cy Y k => by kernel_rfl⟩
noncomputable def F159 : FFn := cF LV 0 [0, 1, 3, 2] Tryz.f159
noncomputable def G159 (E : Env) : ZFn := ⟨20, [0, 1, 3, 2], fun cy Y fuel =>
  (zSeq (zReg fun k => (zStep E (cy Y) ⟨.box 81 (.v 0), (.var 1), none, false, 0, (some 0)⟩) ((zStep E (cy Y) ⟨.alloc 38, (.var 3), none, false, 1, (some 1)⟩) k))
  (zSeq (zReg fun k => (zStep E (cy Y) ⟨.alloc 38, (.var 2), none, false, 0, (some 0)⟩) k)
  (zSeq (zSeq (zReg fun k => (zP (vFieldAddr 0 (.v 1))) ((zL 1 false (.l 0)) ((zP (vInt E fEql .eql 3 false true (.l 0) (.k (.int .i64 5)))) k)))
  (zCond (.l 0) (zDreg 3 fun n0 k => (zPD (vFieldAddr 1 (.v 1))) ((zLD B34 1 1 false (.l 0)) ((zPD (vIndexAddr 2 (.l 0) (.k (.int .i64 0)))) ((zLD B34 3 2 true (.l 0)) ((zCallD (cy Y) B34 4 159 [(.l 0)] .push) ((zPD (vFieldAddr 1 (.v 1))) ((zLD B34 6 1 false (.l 0)) ((zPD (vIndexAddr 2 (.l 0) (.k (.int .i64 1)))) ((zLD B34 8 2 true (.l 0)) ((zCallD (cy Y) B34 9 159 [(.l 0)] .push) ((zStepD E (cy Y) B34 n0 ⟨.buildSlice 36 2 [(0, (.l 5)), (1, (.l 0))], .push, none, false, 10, (some 2)⟩) ((zPD (vFieldAddr 4 (.v 2))) ((zStepD E (cy Y) B34 n0 ⟨.store 36 (.l 0) (.l 1), .none, none, false, 12, none⟩) k))))))))))))) zSkip))
  (zSeq (zReg fun k => (zL 5 true (.v 2)) ((zStep E (cy Y) ⟨.store 38 (.v 3) (.l 0), .none, none, false, 1, none⟩) k))
  zRet)))), [.cell (.v 3) 38]⟩
theorem G159_ok (fn : Nat → Option Func) (pu : Nat → Bool) (pr : Nat → List AV → Option (Heap → Option (Eff × Acc))) : ZOk ⟨Tryz.tyT, fn, pu, pr⟩ npT F159 (G159 ⟨Tryz.tyT, fn, pu, pr⟩) := ⟨by kernel_rfl, by kernel_rfl, by kernel_rfl, fun cy Y k => by kernel_rfl⟩
noncomputable def F160 : FFn := cF LV 0 [1, 0, 8, 9, 10, 2, 11, 4, 6, 7] Tryz.f160
noncomputable def G160 (E : Env) : ZFn := ⟨49, [1, 0, 8, 9, 10, 2, 11, 4, 6, 7], fun cy Y fuel =>
  (zSeq (zReg fun k => (zStep E (cy Y) ⟨.box 131 (.v 0), (.var 7), none, false, 0, (some 0)⟩) ((zV 8 (vMv (.k (.int .i64 0)))) ((zV 9 (vMv (.k (.bool false)))) k)))
  (zSeq (zReg fun k => (zP (vLenL (.v 1))) ((zV 2 (vMv (.l 0))) k))
  (zSeq (zReg fun k => (zV 3 (vMv (.k (.int .i64 0)))) ((zV 4 (vMv (.v 2))) k))
  (zSeq (zBlock 0 (zLoop fuel (zSeq (zSeq (zReg fun k => (zP (vInt E fLss .lss 3 false false (.v 3) (.v 4))) k)
  (zCond (.l 0) zSkip (zExit 0)))
  (zBlock 1 (zSeq (zReg fun k => (zP (vInt E fAdd .add 3 false false (.v 3) (.v 4))) ((zP (vConv .u64 (.l 0))) ((zP (vBin E .shr 302 false true (.l 0) (.k (.int .u64 1)))) ((zP (vConv .i64 (.l 0))) ((zV 6 (vMv (.l 0))) k)))))
  (zSeq (zDreg 1 fun n0 k => (zPD (vIndexAddr 3 (.v 1) (.v 6))) ((zLD B35 4 3 true (.l 0)) ((zLD B35 5 3 true (.v 7)) ((zStepD E (cy Y) B35 n0 ⟨.callv (.v 5) [(.l 1), (.l 0)], .push, none, false, 6, (some 0)⟩) ((zPD (vInt E fLss .lss 3 false true (.l 0) (.k (.int .i64 0)))) k)))))
  (zCond (.l 0) (zReg fun k => (zP (vInt E fAdd .add 3 false true (.v 6) (.k (.int .i64 1)))) ((zV 3 (vMv (.l 0))) k)) (zReg fun k => (zV 4 (vMv (.v 6))) k))))))))
  (zSeq (zDreg 1 fun n0 k => (zPD (vInt E fLss .lss 3 false false (.v 3) (.v 2))) ((zGD (.l 0) true .push (zPD (vMv (.v 5)))) ((zGD (.l 1) true .push (zPD (vMv (.v 1)))) ((zGD (.l 2) true .push (zPD (vMv (.v 3)))) ((zGD (.l 3) true .push (zPD (vIndexAddr 3 (.l 1) (.l 0)))) ((zGD (.l 4) true .push (zLD B36 9 3 true (.l 0))) ((zGD (.l 5) true .push (zLD B36 10 3 true (.v 7))) ((zGD (.l 6) true .push (zStepD E (cy Y) B36 n0 ⟨.callv (.l 5) [(.l 1), (.l 0)], .push, none, false, 11, (some 0)⟩)) ((zGD (.l 7) true .push (zPD (vInt E fEql .eql 3 false true (.l 0) (.k (.int .i64 0))))) ((zPD (vPick (.l 8) (.l 0) (.k (.bool false)))) ((zVD 8 (vMv (.v 3))) ((zVD 9 (vMv (.l 0))) k))))))))))))
  zRet))))), [.tmp (.v 8), .tmp (.v 9)]⟩
theorem G160_ok (fn : Nat → Option Func) (pu : Nat → Bool) (pr : Nat → List AV → Option (Heap → Option (Eff × Acc))) : ZOk ⟨Tryz.tyT, fn, pu, pr⟩ npT F160 (G160 ⟨Tryz.tyT, fn, pu, pr⟩) := ⟨by kernel_rfl, by kernel_rfl, by kernel_rfl, fun cy Y k => by kernel_rfl⟩
noncomputable def F163 : FFn := cF LV 0 [0, 2] Tryz.f163
noncomputable def G163 (E : Env) : ZFn := ⟨6, [0, 2], fun cy Y fuel =>
  (zSeq (zReg fun k => (zV 1 (vMv (.k (.bool false)))) k)
  (zSeq (zReg fun k => (zP (vInt E fNeq .neq 33 false false (.v 0) (.v 0))) ((zV 1 (vMv (.l 0))) k))
  zRet)), [.tmp (.v 1)]⟩
theorem G163_ok (fn : Nat → Option Func) (pu : Nat → Bool) (pr : Nat → List AV → Option (Heap → Option (Eff × Acc))) : ZOk ⟨Tryz.tyT, fn, pu, pr⟩ npT F163 (G163 ⟨Tryz.tyT, fn, pu, pr⟩) := ⟨by kernel_rfl, by kernel_rfl, by kernel_rfl, fun cy Y k => by kernel_rfl⟩
noncomputable def F164 : FFn := cF LV 0 [1, 0, 8, 9, 10, 2, 11, 4, 6, 7] Tryz.f164
noncomputable def G164 (E : Env) : ZFn := ⟨49, [1, 0, 8, 9, 10, 2, 11, 4, 6, 7], fun cy Y fuel =>
  (zSeq (zReg fun k => (zStep E (cy Y) ⟨.box 77 (.v 0), (.var 7), none, false, 0, (some 0)⟩) ((zV 8 (vMv (.k (.int .i64 0)))) ((zV 9 (vMv (.k (.bool false)))) k)))
  (zSeq (zReg fun k => (zP (vLenL (.v 1))) ((zV 2 (vMv (.l 0))) k))
  (zSeq (zReg fun k => (zV 3 (vMv (.k (.int .i64 0)))) ((zV 4 (vMv (.v 2))) k))
  (zSeq (zBlock 0 (zLoop fuel (zSeq (zSeq (zReg fun k => (zP (vInt E fLss .lss 3 false false (.v 3) (.v 4))) k)
  (zCond (.l 0) zSkip (zExit 0)))
  (zBlock 1 (zSeq (zReg fun k => (zP (vInt E fAdd .add 3 false false (.v 3) (.v 4))) ((zP (vConv .u64 (.l 0))) ((zP (vBin E .shr 302 false true (.l 0) (.k (.int .u64 1)))) ((zP (vConv .i64 (.l 0))) ((zV 6 (vMv (.l 0))) k)))))
  (zSeq (zDreg 1 fun n0 k => (zPD (vIndexAddr 2 (.v 1) (.v 6))) ((zLD B35 4 2 true (.l 0)) ((zLD B35 5 2 true (.v 7)) ((zStepD E (cy Y) B35 n0 ⟨.callv (.v 5) [(.l 1), (.l 0)], .push, none, false, 6, (some 0)⟩) ((zPD (vInt E fLss .lss 3 false true (.l 0) (.k (.int .i64 0)))) k)))))
  (zCond (.l 0) (zReg fun k => (zP (vInt E fAdd .add 3 false true (.v 6) (.k (.int .i64 1)))) ((zV 3 (vMv (.l 0))) k)) (zReg fun k => (zV 4 (vMv (.v 6))) k))))))))
  (zSeq (zDreg 1 fun n0 k => (zPD (vInt E fLss .lss 3 false false (.v 3) (.v 2))) ((zGD (.l 0) true .push (zPD (vMv (.v 5)))) ((zGD (.l 1) true .push (zPD (vMv (.v 1)))) ((zGD (.l 2) true .push (zPD (vMv (.v 3)))) ((zGD (.l 3) true .push (zPD (vIndexAddr 2 (.l 1) (.l 0)))) ((zGD (.l 4) true .push (zLD B36 9 2 true (.l 0))) ((zGD (.l 5) true .push (zLD B36 10 2 true (.v 7))) ((zGD (.l 6) true .push (zStepD E (cy Y) B36 n0 ⟨.callv (.l 5) [(.l 1), (.l 0)], .push, none, false, 11, (some 0)⟩)) ((zGD (.l 7) true .push (zPD (vInt E fEql .eql 3 false true (.l 0) (.k (.int .i64 0))))) ((zPD (vPick (.l 8) (.l 0) (.k (.bool false)))) ((zVD 8 (vMv (.v 3))) ((zVD 9 (vMv (.l 0))) k))))))))))))
  zRet))))), [.tmp (.v 8), .tmp (.v 9)]⟩
theorem G164_ok (fn : Nat → Option Func) (pu : Nat → Bool) (pr : Nat → List AV → Option (Heap → Option (Eff × Acc))) : ZOk ⟨Tryz.tyT, fn, pu, pr⟩ npT F164 (G164 ⟨Tryz.tyT, fn, pu, pr⟩) := ⟨by kernel_rfl, by kernel_rfl, by kernel_rfl, fun cy Y k => by kernel_rfl⟩
noncomputable def F166 : FFn := cF LV 0 [0, 1, 5, 6, 4] Tryz.f166
noncomputable def G166 (E : Env) : ZFn := ⟨20, [0, 1, 5, 6, 4], fun cy Y fuel =>
  (zSeq (zReg fun k => (zV 4 (vMv (.k (.int .i64 0)))) k)
  (zSeq (zReg fun k => (zCall (cy Y) 229 [(.v 0)] .push) ((zV 2 (vMv (.l 0))) k))
  (zSeq (zReg fun k => (zCall (cy Y) 229 [(.v 1)] .push) ((zV 3 (vMv (.l 0))) k))
  (zSeq (zSeq (zReg fun k => k)
  (zCond (.v 2) (zSeq (zSeq (zReg fun k => k)
  (zCond (.v 3) (zSeq (zReg fun k => (zV 4 (vMv (.k (.int .i64 0)))) k)
  zRet) zSkip))
  (zSeq (zReg fun k => (zV 4 (vMv (.k (.int .i64 (-1))))) k)
  zRet)) zSkip))
  (zSeq (zSeq (zReg fun k => k)
  (zCond (.v 3) (zSeq (zReg fun k => (zV 4 (vMv (.k (.int .i64 1)))) k)
  zRet) zSkip))
  (zSeq (zSeq (zReg fun k => (zP (vInt E fLss .lss 3 false false (.v 0) (.v 1))) k)
  (zCond (.l 0) (zSeq (zReg fun k => (zV 4 (vMv (.k (.int .i64 (-1))))) k)
  zRet) zSkip))
  (zSeq (zSeq (zReg fun k => (zP (vInt E fGtr .gtr 3 false false (.v 0) (.v 1))) k)
  (zCond (.l 0) (zSeq (zReg fun k => (zV 4 (vMv (.k (.int .i64 1)))) k)
  zRet) zSkip))
  (zSeq (zReg fun k => (zV 4 (vMv (.k (.int .i64 0)))) k)
  zRet)))))))), [.tmp (.v 4)]⟩
theorem G166_ok (fn : Nat → Option Func) (pu : Nat → Bool) (pr : Nat → List AV → Option (Heap → Option (Eff × Acc))) : ZOk ⟨Tryz.tyT, fn, pu, pr⟩ npT F166 (G166 ⟨Tryz.tyT, fn, pu, pr⟩) := ⟨by kernel_rfl, by kernel_rfl, by kernel_rfl, fun cy Y k => by kernel_rfl⟩
noncomputable def F167 : FFn := cF LV 0 [0, 1, 7, 2, 6] Tryz.f167
noncomputable def G167 (E : Env) : ZFn := ⟨18, [0, 1, 7, 2, 6], fun cy Y fuel =>
  (zSeq (zReg fun k => (zV 4 (vMv (.k (.sl 0 [] true)))) k)
  (zSeq (zReg fun k => (zCall (cy Y) 230 [(.v 0), (.v 1)] .push) ((zV 2 (vMv (.l 0))) k))
  (zSeq (zReg fun k => (zStep E (cy Y) ⟨.most true [(.v 3), (.k (.int .i64 0))], .push, none, false, 2, none⟩) ((zP (vLenL (.v 2))) ((zStep E (cy Y) ⟨.most false [(.l 1), (.l 0)], .push, none, false, 5, none⟩) ((zStep E (cy Y) ⟨.slice 98 (.v 2) none (some (.l 0)) none, .push, none, false, 6, none⟩) ((zV 4 (vMv (.l 0))) k)))))
  zRet))), [.tmp (.v 4)]⟩
theorem G167_ok (fn : Nat → Option Func) (pu : Nat → Bool) (pr : Nat → List AV → Option (Heap → Option (Eff × Acc))) : ZOk ⟨Tryz.tyT, fn, pu, pr⟩ npT F167 (G167 ⟨Tryz.tyT, fn, pu, pr⟩) := ⟨by kernel_rfl, by kernel_rfl, by kernel_rfl, fun cy Y k => by kernel_rfl⟩
noncomputable def F168 : FFn := cF LV 0 [2, 0, 1, 5, 10, 9, 8, 6, 7] Tryz.f168
noncomputable def G168 (E : Env) : ZFn := ⟨32, [2, 0, 1, 5, 10, 9, 8, 6, 7], fun cy Y fuel =>
  (zSeq (zReg fun k => (zStep E (cy Y) ⟨.box 38 (.v 0), (.var 3), none, false, 0, (some 0)⟩) ((zV 7 (vMv (.k (.bool false)))) ((zV 8 (vMv (.k .nilIface))) k)))
  (zSeq (zReg fun k => (zL 5 true (.v 3)) ((zCall (cy Y) 231 [(.v 1), (.v 2), (.l 0)] .push) ((zP (vExtract 0 (.l 0))) ((zP (vExtract 1 (.l 1))) ((zP (vExtract 2 (.l 2))) ((zStep E (cy Y) ⟨.alloc 38, (.var 6), none, false, 8, (some 1)⟩) ((zStep E (cy Y) ⟨.store 38 (.v 6) (.l 2), .none, none, false, 9, none⟩) ((zV 5 (vMv (.l 1))) ((zV 4 (vMv (.l 0))) k)))))))))
  (zSeq (zSeq (zReg fun k => (zP (vInt E fNeq .neq 55 false true (.v 4) (.k .nilIface))) ((zG (.l 0) false .push (zP (vMv (.v 5)))) ((zG (.l 1) false .push (zP (vNot (.l 0)))) ((zP (vPick (.l 2) (.k (.bool true)) (.l 0))) k))))
  (zCond (.l 0) (zSeq (zReg fun k => (zV 7 (vMv (.k (.bool false)))) ((zV 8 (vMv (.v 4))) k))
  zRet) zSkip))
  (zSeq (zDreg 1 fun n0 k => (zPD (vNilCheck (.v 1))) ((zPD (vFieldAddr 1 (.l 0))) ((zLD B37 4 5 true (.v 6)) ((zCallD (cy Y) B37 5 232 [(.l 1), (.v 2), (.l 0)] .push) k))))
  (zSeq (zReg fun k => (zV 7 (vMv (.k (.bool true)))) ((zV 8 (vMv (.k .nilIface))) k))
  zRet))))), [.tmp (.v 7), .tmp (.v 8)]⟩
theorem G168_ok (fn : Nat → Option Func) (pu : Nat → Bool) (pr : Nat → List AV → Option (Heap → Option (Eff × Acc))) : ZOk ⟨Tryz.tyT, fn, pu, pr⟩ npT F168 (G168 ⟨Tryz.tyT, fn, pu, pr⟩) := ⟨by kernel_rfl, by kernel_rfl, by kernel_rfl, fun cy Y k => by kernel_rfl⟩
noncomputable def F169 : FFn := cF LV 0 [1, 7, 6, 5, 0, 4] Tryz.f169
noncomputable def G169 (E : Env) : ZFn := ⟨16, [1, 7, 6, 5, 0, 4], fun cy Y fuel =>
  (zSeq (zReg fun k => (zDstW (.var 3) (wLoad 1 false (.v 0))) ((zV 2 (vLenL (.v 3))) ((zV 1 (vMv (.k (.int .i64 0)))) k)))
  (zBlock 0 (zLoop fuel (zSeq (zReg fun k => (zP (vInt E fLss .lss 3 false false (.v 1) (.v 2))) k)
  (zSeq (zCond (.l 0) zSkip (zExit 0))
  (zSeq (zBlock 1 (zSeq (zReg fun k => (zP (vIndexAddr 1 (.v 3) (.v 1))) ((zL 1 false (.l 0)) ((zV 5 (vMv (.l 0))) k)))
  (zSeq (zReg fun k => (zStep E (cy Y) ⟨.callv (.v 4) [(.v 5)], .push, none, false, 2, (some 0)⟩) ((zP (vNot (.l 0))) k))
  (zCond (.l 0) zRet zSkip))))
  (zReg fun k => (zP (vInt E fAdd .add 3 false true (.v 1) (.k (.int .i64 1)))) ((zV 1 (vMv (.l 0))) k)))))))), []⟩
theorem G169_ok (fn : Nat → Option Func) (pu : Nat → Bool) (pr : Nat → List AV → Option (Heap → Option (Eff × Acc))) : ZOk ⟨Tryz.tyT, fn, pu, pr⟩ npT F169 (G169 ⟨Tryz.tyT, fn, pu, pr⟩) := ⟨by kernel_rfl, by kernel_rfl, by kernel_rfl, fun cy Y k => by kernel_rfl⟩
noncomputable def F170 : FFn := cF LV 0 [0, 1, 6, 5, 4] Tryz.f170
noncomputable def G170 (E : Env) : ZFn := ⟨29, [0, 1, 6, 5, 4], fun cy Y fuel =>
  (zSeq (zReg fun k => (zV 4 (vMv (.k (.bool false)))) k)
  (zSeq (zReg fun k => (zP (vNilCheck (.v 0))) ((zP (vFieldAddr 0 (.l 0))) ((zL 1 false (.l 0)) ((zCall (cy Y) 78 [(.l 0), (.v 1)] .push) ((zP (vExtract 0 (.l 0))) ((zP (vExtract 1 (.l 1))) ((zStep E (cy Y) ⟨.alloc 83, (.var 3), none, false, 9, (some 1)⟩) ((zStep E (cy Y) ⟨.store 83 (.v 3) (.l 1), .none, none, false, 10, none⟩) ((zV 2 (vMv (.l 0))) k)))))))))
  (zSeq (zReg fun k => (zG (.v 2) true .push (zP (vMv (.v 0)))) ((zG (.v 2) true .push (zP (vNilCheck (.l 0)))) ((zG (.v 2) true .push (zP (vFieldAddr 0 (.l 0)))) ((zG (.v 2) true .push (zL 1 false (.l 0))) ((zG (.v 2) true .push (zStep E (cy Y) ⟨.call 75 [(.l 0)], .push, none, false, 6, (some 0)⟩)) ((zP (vPick (.v 2) (.l 0) (.k (.bool false)))) ((zG (.l 0) true .push (zP (vFieldAddr 1 (.v 3)))) ((zG (.l 1) true .push (zL 1 false (.l 0))) ((zG (.l 2) true .push (zP (vInt E fEql .eql 3 false true (.l 0) (.k (.int .i64 3))))) ((zP (vPick (.l 3) (.l 0) (.k (.bool false)))) ((zV 4 (vMv (.l 0))) k)))))))))))
  zRet))), [.tmp (.v 4)]⟩
theorem G170_ok (fn : Nat → Option Func) (pu : Nat → Bool) (pr : Nat → List AV → Option (Heap → Option (Eff × Acc))) : ZOk ⟨Tryz.tyT, fn, pu, pr⟩ npT F170 (G170 ⟨Tryz.tyT, fn, pu, pr⟩) := ⟨by kernel_rfl, by kernel_rfl, by kernel_rfl, fun cy Y k => by kernel_rfl⟩
noncomputable def F173 : FFn := cF LV 0 [0, 2] Tryz.f173
noncomputable def G173 (E : Env) : ZFn := ⟨11, [0, 2], fun cy Y fuel =>
  (zSeq (zReg fun k => (zP (vLenL (.v 0))) ((zV 1 (vMv (.l 0))) k))
  (zReg fun k => (zP (vConv .u64 (.v 1))) ((zCall (cy Y) 241 [(.l 0)] .push) ((zCall (cy Y) 240 [(.v 0), (.k (.int .i64 0)), (.v 1), (.l 0)] .push) k)))), []⟩
theorem G173_ok (fn : Nat → Option Func) (pu : Nat → Bool) (pr : Nat → List AV → Option (Heap → Option (Eff × Acc))) : ZOk ⟨Tryz.tyT, fn, pu, pr⟩ npT F173 (G173 ⟨Tryz.tyT, fn, pu, pr⟩) := ⟨by kernel_rfl, by kernel_rfl, by kernel_rfl, fun cy Y k => by kernel_rfl⟩
noncomputable def F174 : FFn := cF LV 0 [0, 1, 2] Tryz.f174
noncomputable def G174 (E : Env) : ZFn := ⟨4, [0, 1, 2], fun cy Y fuel =>
  (zSeq (zReg fun k => (zStep E (cy Y) ⟨.box 36 (.v 0), (.var 1), none, false, 0, (some 0)⟩) ((zV 2 (vMv (.k .nilFunc))) k))
  (zSeq (zReg fun k => (zStep E (cy Y) ⟨.mkFunc 242 [(.v 1)], .push, none, false, 0, none⟩) ((zV 2 (vMv (.l 0))) k))
  zRet)), [.tmp (.v 2)]⟩
theorem G174_ok (fn : Nat → Option Func) (pu : Nat → Bool) (pr : Nat → List AV → Option (Heap → Option (Eff × Acc))) : ZOk ⟨Tryz.tyT, fn, pu, pr⟩ npT F174 (G174 ⟨Tryz.tyT, fn, pu, pr⟩) := ⟨by kernel_rfl, by kernel_rfl, by kernel_rfl, fun cy Y k => by kernel_rfl⟩
noncomputable def F184 : FFn := cF LV 0 [0, 2, 1, 7, 4, 6, 5] Tryz.f184
noncomputable def G184 (E : Env) : ZFn := ⟨24, [0, 2, 1, 7, 4, 6, 5], fun cy Y fuel =>
  (zSeq (zReg fun k => (zStep E (cy Y) ⟨.box 26 (.v 0), (.var 1), none, false, 0, (some 0)⟩) ((zStep E (cy Y) ⟨.alloc 131, (.var 4), none, false, 1, (some 1)⟩) ((zV 6 (vMv (.k (.bool false)))) k)))
  (zSeq (zReg fun k => (zP (vFieldAddr 1 (.v 1))) ((zL 1 false (.l 0)) ((zStep E (cy Y) ⟨.build 131 [(0, (.v 2))], .push, none, false, 3, none⟩) ((zCall (cy Y) 160 [(.l 1), (.l 0), (.k (.clo 97 []))] .push) ((zP (vExtract 0 (.l 0))) ((zP (vExtract 1 (.l 1))) ((zV 5 (vMv (.l 1))) ((zV 3 (vMv (.l 0))) k))))))))
  (zSeq (zSeq (zReg fun k => (zP (vNot (.v 3))) k)
  (zCond (.l 0) (zSeq (zReg fun k => (zStep E (cy Y) ⟨.build 131 [], .push, none, false, 0, none⟩) ((zStep E (cy Y) ⟨.store 131 (.v 4) (.l 0), .none, none, false, 1, none⟩) ((zV 6 (vMv (.k (.bool false)))) k)))
  zRet) zSkip))
  (zSeq (zReg fun k => (zP (vFieldAddr 1 (.v 1))) ((zL 1 false (.l 0)) ((zP (vIndexAddr 3 (.l 0) (.v 5))) ((zL 3 true (.l 0)) ((zStep E (cy Y) ⟨.store 131 (.v 4) (.l 0), .none, none, false, 5, none⟩) ((zV 6 (vMv (.k (.bool true)))) k))))))
  zRet)))), [.cell (.v 4) 131, .tmp (.v 6)]⟩
theorem G184_ok (fn : Nat → Option Func) (pu : Nat → Bool) (pr : Nat → List AV → Option (Heap → Option (Eff × Acc))) : ZOk ⟨Tryz.tyT, fn, pu, pr⟩ npT F184 (G184 ⟨Tryz.tyT, fn, pu, pr⟩) := ⟨by kernel_rfl, by kernel_rfl, by kernel_rfl, fun cy Y k => by kernel_rfl⟩
noncomputable def F195 : FFn := cF LV 0 [1, 7, 6, 5, 0, 4] Tryz.f195
noncomputable def G195 (E : Env) : ZFn := ⟨16, [1, 7, 6, 5, 0, 4], fun cy Y fuel =>
  (zSeq (zReg fun k => (zDstW (.var 3) (wLoad 1 false (.v 0))) ((zV 2 (vLenL (.v 3))) ((zV 1 (vMv (.k (.int .i64 0)))) k)))
  (zBlock 0 (zLoop fuel (zSeq (zReg fun k => (zP (vInt E fLss .lss 3 false false (.v 1) (.v 2))) k)
  (zSeq (zCond (.l 0) zSkip (zExit 0))
  (zSeq (zBlock 1 (zSeq (zReg fun k => (zP (vIndexAddr 6 (.v 3) (.v 1))) ((zL 6 true (.l 0)) ((zStep E (cy Y) ⟨.alloc 122, (.var 5), none, false, 2, (some 0)⟩) ((zStep E (cy Y) ⟨.store 122 (.v 5) (.l 0), .none, none, false, 3, none⟩) k))))
  (zSeq (zReg fun k => (zL 6 true (.v 5)) ((zStep E (cy Y) ⟨.callv (.v 4) [(.l 0)], .push, none, false, 2, (some 0)⟩) ((zP (vNot (.l 0))) k)))
  (zCond (.l 0) zRet zSkip))))
  (zReg fun k => (zP (vInt E fAdd .add 3 false true (.v 1) (.k (.int .i64 1)))) ((zV 1 (vMv (.l 0))) k)))))))), []⟩
theorem G195_ok (fn : Nat → Option Func) (pu : Nat → Bool) (pr : Nat → List AV → Option (Heap → Option (Eff × Acc))) : ZOk ⟨Tryz.tyT, fn, pu, pr⟩ npT F195 (G195 ⟨Tryz.tyT, fn, pu, pr⟩) := ⟨by kernel_rfl, by kernel_rfl, by kernel_rfl, fun cy Y k => by kernel_rfl⟩
noncomputable def F197 : FFn := cF LV 0 [0, 1, 2, 3, 5, 4] Tryz.f197
noncomputable def G197 (E : Env) : ZFn := ⟨20, [0, 1, 2, 3, 5, 4], fun cy Y fuel =>
  (zSeq (zReg fun k => (zStep E (cy Y) ⟨.box 81 (.v 0), (.var 2), none, false, 0, (some 0)⟩) ((zStep E (cy Y) ⟨.box 38 (.v 1), (.var 3), none, false, 1, (some 1)⟩) ((zV 5 (vMv (.k (.str [])))) k)))
  (zSeq (zSeq (zReg fun k => (zL 2 true (.v 2)) ((zL 5 true (.v 3)) ((zStep E (cy Y) ⟨.call 141 [(.l 1), (.l 0)], .push, none, false, 2, (some 0)⟩) ((zP (vNot (.l 0))) k))))
  (zCond (.l 0) (zSeq (zReg fun k => (zV 5 (vMv (.k (.str [])))) k)
  zRet) zSkip))
  (zSeq (zReg fun k => (zStep E (cy Y) ⟨.build 342 [], .push, none, false, 0, none⟩) ((zStep E (cy Y) ⟨.box 342 (.l 0), .push, none, false, 1, (some 0)⟩) ((zV 4 (vMv (.l 0))) k)))
  (zSeq (zReg fun k => (zL 2 true (.v 2)) ((zL 5 true (.v 3)) ((zCall (cy Y) 260 [(.v 4), (.l 1), (.l 0)] .push) k)))
  (zSeq (zReg fun k => (zP (vNilCheck (.v 4))) ((zP (vFieldAddr 0 (.l 0))) ((zStep E (cy Y) ⟨.call 261 [(.l 0)], .push, none, false, 3, (some 0)⟩) ((zV 5 (vMv (.l 0))) k))))
  zRet))))), [.tmp (.v 5)]⟩
theorem G197_ok (fn : Nat → Option Func) (pu : Nat → Bool) (pr : Nat → List AV → Option (Heap → Option (Eff × Acc))) : ZOk ⟨Tryz.tyT, fn, pu, pr⟩ npT F197 (G197 ⟨Tryz.tyT, fn, pu, pr⟩) := ⟨by kernel_rfl, by kernel_rfl, by kernel_rfl, fun cy Y k => by kernel_rfl⟩
noncomputable def F199 : FFn := cF LV 0 [0, 1, 2, 3, 4] Tryz.f199
noncomputable def G199 (E : Env) : ZFn := ⟨17, [0, 1, 2, 3, 4], fun cy Y fuel =>
  (zSeq (zReg fun k => (zStep E (cy Y) ⟨.box 81 (.v 0), (.var 2), none, false, 0, (some 0)⟩) ((zStep E (cy Y) ⟨.box 81 (.v 1), (.var 3), none, false, 1, (some 1)⟩) ((zV 4 (vMv (.k (.bool false)))) k)))
  (zSeq (zReg fun k => (zP (vFieldAddr 0 (.v 2))) ((zL 1 false (.l 0)) ((zP (vFieldAddr 0 (.v 3))) ((zL 1 false (.l 0)) ((zP (vInt E fEql .eql 3 false false (.l 2) (.l 0))) ((zG (.l 0) true .push (zP (vFieldAddr 1 (.v 2)))) ((zG (.l 1) true .push (zL 1 false (.l 0))) ((zG (.l 2) true .push (zP (vFieldAddr 1 (.v 3)))) ((zG (.l 3) true .push (zL 1 false (.l 0))) ((zG (.l 4) true .push (zCall (cy Y) 262 [(.l 2), (.l 0), (.k (.clo 199 []))] .push)) ((zP (vPick (.l 5) (.l 0) (.k (.bool false)))) ((zV 4 (vMv (.l 0))) k))))))))))))
  zRet)), [.tmp (.v 4)]⟩
theorem G199_ok (fn : Nat → Option Func) (pu : Nat → Bool) (pr : Nat → List AV → Option (Heap → Option (Eff × Acc))) : ZOk ⟨Tryz.tyT, fn, pu, pr⟩ npT F199 (G199 ⟨Tryz.tyT, fn, pu, pr⟩) := ⟨by kernel_rfl, by kernel_rfl, by kernel_rfl, fun cy Y k => by kernel_rfl⟩
noncomputable def F200 : FFn := cF LV 0 [0, 3, 1, 2] Tryz.f200
noncomputable def G200 (E : Env) : ZFn := ⟨13, [0, 3, 1, 2], fun cy Y fuel =>
  (zSeq (zReg fun k => (zStep E (cy Y) ⟨.box 81 (.v 0), (.var 2), none, false, 0, (some 0)⟩) ((zStep E (cy Y) ⟨.alloc 81, (.var 3), none, false, 1, (some 1)⟩) k))
  (zSeq (zReg fun k => (zStep E (cy Y) ⟨.build 81 [(0, (.k (.int .i64 7)))], .push, none, false, 0, none⟩) ((zStep E (cy Y) ⟨.buildSlice 79 1 [(0, (.l 0))], .push, none, false, 1, (some 0)⟩) ((zStep E (cy Y) ⟨.build 81 [(0, (.k (.int .i64 4))), (1, (.l 0))], .push, none, false, 2, none⟩) ((zStep E (cy Y) ⟨.alloc 81, (.var 1), none, false, 3, (some 1)⟩) ((zStep E (cy Y) ⟨.store 81 (.v 1) (.l 0), .none, none, false, 4, none⟩) k)))))
  (zSeq (zReg fun k => (zL 2 true (.v 1)) ((zL 2 true (.v 2)) ((zStep E (cy Y) ⟨.buildSlice 79 2 [(0, (.l 1)), (1, (.l 0))], .push, none, false, 2, (some 0)⟩) ((zStep E (cy Y) ⟨.build 81 [(0, (.k (.int .i64 5))), (1, (.l 0))], .push, none, false, 3, none⟩) ((zStep E (cy Y) ⟨.buildSlice 79 1 [(0, (.l 0))], .push, none, false, 4, (some 1)⟩) ((zStep E (cy Y) ⟨.build 81 [(0, (.k (.int .i64 8))), (1, (.l 0))], .push, none, false, 5, none⟩) ((zStep E (cy Y) ⟨.store 81 (.v 3) (.l 0), .none, none, false, 6, none⟩) k)))))))
  zRet))), [.cell (.v 3) 81]⟩
theorem G200_ok (fn : Nat → Option Func) (pu : Nat → Bool) (pr : Nat → List AV → Option (Heap → Option (Eff × Acc))) : ZOk ⟨Tryz.tyT, fn, pu, pr⟩ npT F200 (G200 ⟨Tryz.tyT, fn, pu, pr⟩) := ⟨by kernel_rfl, by kernel_rfl, by kernel_rfl, fun cy Y k => by kernel_rfl⟩
noncomputable def F201 : FFn := cF LV 0 [0, 1, 13, 12, 5, 4] Tryz.f201
noncomputable def G201 (E : Env) : ZFn := ⟨26, [0, 1, 13, 12, 5, 4], fun cy Y fuel =>
  (zSeq (zReg fun k => (zV 5 (vMv (.k (.bool false)))) k)
  (zSeq (zSeq (zReg fun k => (zP (vLenL (.v 0))) ((zP (vLenL (.v 1))) ((zP (vInt E fNeq .neq 3 false false (.l 1) (.l 0))) k)))
  (zCond (.l 0) (zSeq (zReg fun k => (zV 5 (vMv (.k (.bool false)))) k)
  zRet) zSkip))
  (zSeq (zSeq (zReg fun k => (zV 3 (vLenL (.v 0))) ((zV 2 (vMv (.k (.int .i64 0)))) k))
  (zBlock 0 (zLoop fuel (zSeq (zReg fun k => (zP (vInt E fLss .lss 3 false false (.v 2) (.v 3))) k)
  (zSeq (zCond (.l 0) zSkip (zExit 0))
  (zSeq (zBlock 1 (zSeq (zReg fun k => (zV 4 (vMv (.v 2))) k)
  (zSeq (zDreg 0 fun n0 k => (zPD (vIndexAddr 1 (.v 0) (.v 4))) ((zLD B38 3 1 false (.l 0)) ((zPD (vIndexAddr 1 (.v 1) (.v 4))) ((zLD B38 7 1 false (.l 0)) ((zPD (vInt E fNeq .neq 9 false false (.l 2) (.l 0))) k)))))
  (zCond (.l 0) (zSeq (zReg fun k => (zV 5 (vMv (.k (.bool false)))) k)
  zRet) zSkip))))
  (zReg fun k => (zP (vInt E fAdd .add 3 false true (.v 2) (.k (.int .i64 1)))) ((zV 2 (vMv (.l 0))) k))))))))
  (zSeq (zReg fun k => (zV 5 (vMv (.k (.bool true)))) k)
  zRet)))), [.tmp (.v 5)]⟩
theorem G201_ok (fn : Nat → Option Func) (pu : Nat → Bool) (pr : Nat → List AV → Option (Heap → Option (Eff × Acc))) : ZOk ⟨Tryz.tyT, fn, pu, pr⟩ npT F201 (G201 ⟨Tryz.tyT, fn, pu, pr⟩) := ⟨by kernel_rfl, by kernel_rfl, by kernel_rfl, fun cy Y k => by kernel_rfl⟩
noncomputable def F202 : FFn := cF LV 0 [0, 1, 2, 6] Tryz.f202
noncomputable def G202 (E : Env) : ZFn := ⟨11, [0, 1, 2, 6], fun cy Y fuel =>
  (zSeq (zReg fun k => (zV 3 (vMv (.k (.bool false)))) k)
  (zSeq (zReg fun k => (zCall (cy Y) 263 [(.v 0), (.v 1), (.v 2)] .push) ((zV 3 (vMv (.l 0))) k))
  zRet)), [.tmp (.v 3)]⟩
theorem G202_ok (fn : Nat → Option Func) (pu : Nat → Bool) (pr : Nat → List AV → Option (Heap → Option (Eff × Acc))) : ZOk ⟨Tryz.tyT, fn, pu, pr⟩ npT F202 (G202 ⟨Tryz.tyT, fn, pu, pr⟩) := ⟨by kernel_rfl, by kernel_rfl, by kernel_rfl, fun cy Y k => by kernel_rfl⟩
noncomputable def F204 : FFn := cF LV 0 [0, 1, 2, 6] Tryz.f204
noncomputable def G204 (E : Env) : ZFn := ⟨11, [0, 1, 2, 6], fun cy Y fuel =>
  (zSeq (zReg fun k => (zV 3 (vMv (.k (.bool false)))) k)
  (zSeq (zReg fun k => (zCall (cy Y) 265 [(.v 0), (.v 1), (.v 2)] .push) ((zV 3 (vMv (.l 0))) k))
  zRet)), [.tmp (.v 3)]⟩
theorem G204_ok (fn : Nat → Option Func) (pu : Nat → Bool) (pr : Nat → List AV → Option (Heap → Option (Eff × Acc))) : ZOk ⟨Tryz.tyT, fn, pu, pr⟩ npT F204 (G204 ⟨Tryz.tyT, fn, pu, pr⟩) := ⟨by kernel_rfl, by kernel_rfl, by kernel_rfl, fun cy Y k => by kernel_rfl⟩
noncomputable def F205 : FFn := cF LV 0 [0, 1, 13, 12, 5, 4] Tryz.f205
noncomputable def G205 (E : Env) : ZFn := ⟨26, [0, 1, 13, 12, 5, 4], fun cy Y fuel =>
  (zSeq (zReg fun k => (zV 5 (vMv (.k (.bool false)))) k)
  (zSeq (zSeq (zReg fun k => (zP (vLenL (.v 0))) ((zP (vLenL (.v 1))) ((zP (vInt E fNeq .neq 3 false false (.l 1) (.l 0))) k)))
  (zCond (.l 0) (zSeq (zReg fun k => (zV 5 (vMv (.k (.bool false)))) k)
  zRet) zSkip))
  (zSeq (zSeq (zReg fun k => (zV 3 (vLenL (.v 0))) ((zV 2 (vMv (.k (.int .i64 0)))) k))
  (zBlock 0 (zLoop fuel (zSeq (zReg fun k => (zP (vInt E fLss .lss 3 false false (.v 2) (.v 3))) k)
  (zSeq (zCond (.l 0) zSkip (zExit 0))
  (zSeq (zBlock 1 (zSeq (zReg fun k => (zV 4 (vMv (.v 2))) k)
  (zSeq (zDreg 0 fun n0 k => (zPD (vIndexAddr 2 (.v 0) (.v 4))) ((zLD B38 3 2 true (.l 0)) ((zPD (vIndexAddr 2 (.v 1) (.v 4))) ((zLD B38 7 2 true (.l 0)) ((zPD (vInt E fNeq .neq 77 false false (.l 2) (.l 0))) k)))))
  (zCond (.l 0) (zSeq (zReg fun k => (zV 5 (vMv (.k (.bool false)))) k)
  zRet) zSkip))))
  (zReg fun k => (zP (vInt E fAdd .add 3 false true (.v 2) (.k (.int .i64 1)))) ((zV 2 (vMv (.l 0))) k))))))))
  (zSeq (zReg fun k => (zV 5 (vMv (.k (.bool true)))) k)
  zRet)))), [.tmp (.v 5)]⟩
theorem G205_ok (fn : Nat → Option Func) (pu : Nat → Bool) (pr : Nat → List AV → Option (Heap → Option (Eff × Acc))) : ZOk ⟨Tryz.tyT, fn, pu, pr⟩ npT F205 (G205 ⟨Tryz.tyT, fn, pu, pr⟩) := ⟨by kernel_rfl, by kernel_rfl, by kernel_rfl, fun cy Y k => by kernel_rfl⟩
noncomputable def F206 : FFn := cF LV 0 [0, 1, 13, 12, 5, 4] Tryz.f206
noncomputable def G206 (E : Env) : ZFn := ⟨26, [0, 1, 13, 12, 5, 4], fun cy Y fuel =>
  (zSeq (zReg fun k => (zV 5 (vMv (.k (.bool false)))) k)
  (zSeq (zSeq (zReg fun k => (zP (vLenL (.v 0))) ((zP (vLenL (.v 1))) ((zP (vInt E fNeq .neq 3 false false (.l 1) (.l 0))) k)))
  (zCond (.l 0) (zSeq (zReg fun k => (zV 5 (vMv (.k (.bool false)))) k)
  zRet) zSkip))
  (zSeq (zSeq (zReg fun k => (zV 3 (vLenL (.v 0))) ((zV 2 (vMv (.k (.int .i64 0)))) k))
  (zBlock 0 (zLoop fuel (zSeq (zReg fun k => (zP (vInt E fLss .lss 3 false false (.v 2) (.v 3))) k)
  (zSeq (zCond (.l 0) zSkip (zExit 0))
  (zSeq (zBlock 1 (zSeq (zReg fun k => (zV 4 (vMv (.v 2))) k)
  (zSeq (zDreg 0 fun n0 k => (zPD (vIndexAddr 3 (.v 0) (.v 4))) ((zLD B38 3 3 true (.l 0)) ((zPD (vIndexAddr 3 (.v 1) (.v 4))) ((zLD B38 7 3 true (.l 0)) ((zPD (vInt E fNeq .neq 131 false false (.l 2) (.l 0))) k)))))
  (zCond (.l 0) (zSeq (zReg fun k => (zV 5 (vMv (.k (.bool false)))) k)
  zRet) zSkip))))
  (zReg fun k => (zP (vInt E fAdd .add 3 false true (.v 2) (.k (.int .i64 1)))) ((zV 2 (vMv (.l 0))) k))))))))
  (zSeq (zReg fun k => (zV 5 (vMv (.k (.bool true)))) k)
  zRet)))), [.tmp (.v 5)]⟩
theorem G206_ok (fn : Nat → Option Func) (pu : Nat → Bool) (pr : Nat → List AV → Option (Heap → Option (Eff × Acc))) : ZOk ⟨Tryz.tyT, fn, pu, pr⟩ npT F206 (G206 ⟨Tryz.tyT, fn, pu, pr⟩) := ⟨by kernel_rfl, by kernel_rfl, by kernel_rfl, fun cy Y k => by kernel_rfl⟩
noncomputable def F207 : FFn := cF LV 0 [0, 1, 6, 5, 4] Tryz.f207
noncomputable def G207 (E : Env) : ZFn := ⟨43, [0, 1, 6, 5, 4], fun cy Y fuel =>
  (zSeq (zReg fun k => (zV 4 (vMv (.k (.str [])))) k)
  (zSeq (zSeq (zReg fun k => (zP (vInt E fEql .eql 9 false true (.v 0) (.k (.str [])))) ((zG (.l 0) false .push (zP (vMv (.v 1)))) ((zG (.l 1) false .push (zP (vInt E fEql .eql 9 false true (.l 0) (.k (.str []))))) ((zP (vPick (.l 2) (.k (.bool true)) (.l 0))) k))))
  (zCond (.l 0) (zSeq (zReg fun k => (zV 4 (vMv (.v 0))) k)
  zRet) zSkip))
  (zSeq (zSeq (zReg fun k => (zP (vLenS (.v 1))) ((zP (vInt E fEql .eql 3 false true (.l 0) (.k (.int .i64 1)))) ((zG (.l 0) true .push (zP (vMv (.v 1)))) ((zG (.l 1) true .push (zStep E (cy Y) ⟨.index 9 (.l 0) (.k (.int .i64 0)), .push, none, false, 5, none⟩)) ((zG (.l 2) true .push (zP (vInt E fLss .lss 5 false true (.l 0) (.k (.int .u8 128))))) ((zP (vPick (.l 3) (.l 0) (.k (.bool false)))) k))))))
  (zCond (.l 0) (zSeq (zDreg 2 fun n0 k => (zStepD E (cy Y) B39 n0 ⟨.index 9 (.v 1) (.k (.int .i64 0)), .push, none, false, 2, none⟩) ((zCallD (cy Y) B39 3 267 [(.v 0), (.l 0)] .push) ((zStepD E (cy Y) B39 n0 ⟨.index 9 (.v 1) (.k (.int .i64 0)), .push, none, false, 5, none⟩) ((zCallD (cy Y) B39 6 266 [(.l 1), (.l 0)] .push) ((zVD 4 (vMv (.l 0))) k)))))
  zRet) zSkip))
  (zSeq (zSeq (zReg fun k => (zStep E (cy Y) ⟨.call 268 [(.v 1)], .push, none, false, 1, (some 0)⟩) ((zP (vExtract 0 (.l 0))) ((zP (vExtract 1 (.l 1))) ((zStep E (cy Y) ⟨.alloc 348, (.var 3), none, false, 5, (some 1)⟩) ((zStep E (cy Y) ⟨.store 348 (.v 3) (.l 1), .none, none, false, 6, none⟩) ((zV 2 (vMv (.l 0))) k))))))
  (zSeq (zReg fun k => k)
  (zCond (.v 2) (zSeq (zReg fun k => (zCall (cy Y) 270 [(.v 0), (.v 3)] .push) ((zCall (cy Y) 269 [(.l 0), (.v 3)] .push) ((zV 4 (vMv (.l 0))) k)))
  zRet) zSkip)))
  (zSeq (zReg fun k => (zCall (cy Y) 272 [(.v 0), (.v 1)] .push) ((zCall (cy Y) 271 [(.l 0), (.v 1)] .push) ((zV 4 (vMv (.l 0))) k)))
  zRet))))), [.tmp (.v 4)]⟩
theorem G207_ok (fn : Nat → Option Func) (pu : Nat → Bool) (pr : Nat → List AV → Option (Heap → Option (Eff × Acc))) : ZOk ⟨Tryz.tyT, fn, pu, pr⟩ npT F207 (G207 ⟨Tryz.tyT, fn, pu, pr⟩) := ⟨by kernel_rfl, by kernel_rfl, by kernel_rfl, fun cy Y k => by kernel_rfl⟩
noncomputable def F208 : FFn := cF LV 0 [0, 1, 2, 3, 25, 5, 4] Tryz.f208
noncomputable def G208 (E : Env) : ZFn := ⟨137, [0, 1, 2, 3, 25, 5, 4], fun cy Y fuel =>
  (zSeq (zReg fun k => (zStep E (cy Y) ⟨.box 81 (.v 0), (.var 2), none, false, 0, (some 0)⟩) ((zStep E (cy Y) ⟨.box 38 (.v 1), (.var 3), none, false, 1, (some 1)⟩) ((zV 6 (vMv (.k (.bool false)))) k)))
  (zSeq (zSeq (zReg fun k => (zP (vFieldAddr 0 (.v 2))) ((zL 1 false (.l 0)) ((zL 5 true (.v 3)) ((zCall (cy Y) 273 [(.l 1), (.l 0)] .push) ((zP (vNot (.l 0))) ((zG (.l 0) false .push (zP (vFieldAddr 4 (.v 3)))) ((zG (.l 1) false .push (zL 1 false (.l 0))) ((zG (.l 2) false .push (zP (vLenL (.l 0)))) ((zG (.l 3) false .push (zP (vInt E fGtr .gtr 3 false true (.l 0) (.k (.int .i64 40))))) ((zP (vPick (.l 4) (.k (.bool true)) (.l 0))) ((zG (.l 0) false .push (zP (vFieldAddr 3 (.v 3)))) ((zG (.l 1) false .push (zL 1 false (.l 0))) ((zG (.l 2) false .push (zP (vLenL (.l 0)))) ((zG (.l 3) false .push (zP (vInt E fGtr .gtr 3 false true (.l 0) (.k (.int .i64 40))))) ((zP (vPick (.l 4) (.k (.bool true)) (.l 0))) k)))))))))))))))
  (zCond (.l 0) (zSeq (zReg fun k => (zV 6 (vMv (.k (.bool false)))) k)
  zRet) zSkip))
  (zSeq (zReg fun k => (zStep E (cy Y) ⟨.mkFunc 274 [(.v 2)], .push, none, false, 0, none⟩) ((zStep E (cy Y) ⟨.alloc 294, (.var 5), none, false, 1, (some 0)⟩) ((zStep E (cy Y) ⟨.store 294 (.v 5) (.l 0), .none, none, false, 2, none⟩) k)))
  (zSeq (zSeq (zReg fun k => (zP (vFieldAddr 0 (.v 2))) ((zDstW (.var 4) (wLoad 1 false (.l 0))) k))
  (zBlock 0 (zSeq (zReg fun k => (zP (vInt E fEql .eql 3 false true (.v 4) (.k (.int .i64 1)))) ((zP (vMv (.l 0))) k))
  (zCond (.l 0) (zSeq (zReg fun k => (zV 6 (vMv (.k (.bool true)))) k)
  zRet) (zSeq (zReg fun k => (zP (vInt E fEql .eql 3 false true (.v 4) (.k (.int .i64 2)))) ((zP (vMv (.l 0))) k))
  (zCond (.l 0) (zSeq (zReg fun k => (zP (vFieldAddr 0 (.v 3))) ((zL 1 false (.l 0)) ((zP (vInt E (fGen .leq) .leq 33 false true (.l 0) (.k (.int .u64 1)))) ((zV 6 (vMv (.l 0))) k))))
  zRet) (zSeq (zReg fun k => (zP (vInt E fEql .eql 3 false true (.v 4) (.k (.int .i64 3)))) ((zP (vMv (.l 0))) k))
  (zCond (.l 0) (zSeq (zReg fun k => (zP (vFieldAddr 2 (.v 3))) ((zL 1 false (.l 0)) ((zCall (cy Y) 275 [(.l 0)] .push) ((zV 6 (vMv (.l 0))) k))))
  zRet) (zSeq (zReg fun k => (zP (vInt E fEql .eql 3 false true (.v 4) (.k (.int .i64 4)))) ((zP (vMv (.l 0))) k))
  (zCond (.l 0) (zSeq (zReg fun k => (zP (vFieldAddr 2 (.v 3))) ((zL 1 false (.l 0)) ((zCall (cy Y) 275 [(.l 0)] .push) ((zG (.l 0) true .push (zP (vFieldAddr 2 (.v 3)))) ((zG (.l 1) true .push (zL 1 false (.l 0))) ((zG (.l 2) true .push (zP (vLenL (.l 0)))) ((zG (.l 3) true .push (zP (vFieldAddr 4 (.v 3)))) ((zG (.l 4) true .push (zL 1 false (.l 0))) ((zG (.l 5) true .push (zP (vLenL (.l 0)))) ((zG (.l 6) true .push (zP (vInt E fEql .eql 3 false false (.l 3) (.l 0)))) ((zP (vPick (.l 7) (.l 0) (.k (.bool false)))) ((zG (.l 0) true .push (zP (vFieldAddr 4 (.v 3)))) ((zG (.l 1) true .push (zL 1 false (.l 0))) ((zG (.l 2) true .push (zStep E (cy Y) ⟨.mkFunc 277 [(.v 5), (.v 2)], .push, none, false, 15, none⟩)) ((zG (.l 3) true .push (zCall (cy Y) 276 [(.l 1), (.l 0)] .push)) ((zG (.l 4) true .push (zP (vNot (.l 0)))) ((zP (vPick (.l 5) (.l 0) (.k (.bool false)))) ((zV 6 (vMv (.l 0))) k))))))))))))))))))
  zRet) (zSeq (zReg fun k => (zP (vInt E fEql .eql 3 false true (.v 4) (.k (.int .i64 5)))) ((zP (vMv (.l 0))) k))
  (zCond (.l 0) (zSeq (zDreg 2 fun n0 k => (zPD (vFieldAddr 4 (.v 3))) ((zLD B40 1 1 false (.l 0)) ((zPD (vLenL (.l 0))) ((zPD (vInt E fEql .eql 3 false true (.l 0) (.k (.int .i64 2)))) ((zGD (.l 0) true .push (zPD (vFieldAddr 1 (.v 2)))) ((zGD (.l 1) true .push (zLD B40 6 1 false (.l 0))) ((zGD (.l 2) true .push (zPD (vIndexAddr 2 (.l 0) (.k (.int .i64 0))))) ((zGD (.l 3) true .push (zLD B40 8 2 true (.l 0))) ((zGD (.l 4) true .push (zPD (vFieldAddr 4 (.v 3)))) ((zGD (.l 5) true .push (zLD B40 10 1 false (.l 0))) ((zGD (.l 6) true .push (zPD (vIndexAddr 5 (.l 0) (.k (.int .i64 0))))) ((zGD (.l 7) true .push (zLD B40 12 5 true (.l 0))) ((zGD (.l 8) true .push (zCallD (cy Y) B40 13 208 [(.l 4), (.l 0)] .push)) ((zPD (vPick (.l 9) (.l 0) (.k (.bool false)))) ((zGD (.l 0) true .push (zPD (vFieldAddr 1 (.v 2)))) ((zGD (.l 1) true .push (zLD B40 17 1 false (.l 0))) ((zGD (.l 2) true .push (zPD (vIndexAddr 2 (.l 0) (.k (.int .i64 1))))) ((zGD (.l 3) true .push (zLD B40 19 2 true (.l 0))) ((zGD (.l 4) true .push (zPD (vFieldAddr 4 (.v 3)))) ((zGD (.l 5) true .push (zLD B40 21 1 false (.l 0))) ((zGD (.l 6) true .push (zPD (vIndexAddr 5 (.l 0) (.k (.int .i64 1))))) ((zGD (.l 7) true .push (zLD B40 23 5 true (.l 0))) ((zGD (.l 8) true .push (zCallD (cy Y) B40 24 208 [(.l 4), (.l 0)] .push)) ((zPD (vPick (.l 9) (.l 0) (.k (.bool false)))) ((zVD 6 (vMv (.l 0))) k)))))))))))))))))))))))))
  zRet) (zSeq (zReg fun k => (zP (vInt E fEql .eql 3 false true (.v 4) (.k (.int .i64 6)))) ((zP (vMv (.l 0))) k))
  (zCond (.l 0) (zSeq (zReg fun k => (zL 5 true (.v 3)) ((zCall (cy Y) 278 [(.l 0)] .push) ((zV 6 (vMv (.l 0))) k)))
  zRet) (zSeq (zReg fun k => (zP (vInt E fEql .eql 3 false true (.v 4) (.k (.int .i64 7)))) ((zP (vMv (.l 0))) k))
  (zCond (.l 0) (zSeq (zReg fun k => (zP (vFieldAddr 3 (.v 3))) ((zL 1 false (.l 0)) ((zP (vLenL (.l 0))) ((zP (vInt E fEql .eql 3 false true (.l 0) (.k (.int .i64 0)))) ((zG (.l 0) false .push (zP (vFieldAddr 3 (.v 3)))) ((zG (.l 1) false .push (zL 1 false (.l 0))) ((zG (.l 2) false .push (zP (vLenL (.l 0)))) ((zG (.l 3) false .push (zP (vInt E fEql .eql 3 false true (.l 0) (.k (.int .i64 1))))) ((zG (.l 4) false .push (zP (vMv (.l 0)))) ((zG (.l 0) true .push (zP (vFieldAddr 3 (.v 3)))) ((zG (.l 1) true .push (zL 1 false (.l 0))) ((zG (.l 2) true .push (zP (vIndexAddr 1 (.l 0) (.k (.int .i64 0))))) ((zG (.l 3) true .push (zL 1 false (.l 0))) ((zG (.l 4) true .push (zP (vLenL (.l 0)))) ((zG (.l 5) true .push (zP (vInt E fGtr .gtr 3 false true (.l 0) (.k (.int .i64 0))))) ((zG (.l 11) false .push (zP (vPick (.l 6) (.l 0) (.k (.bool false))))) ((zG (.l 12) false .push (zP (vMv (.l 0)))) ((zG (.l 0) true .push (zP (vFieldAddr 3 (.v 3)))) ((zG (.l 1) true .push (zL 1 false (.l 0))) ((zG (.l 2) true .push (zP (vIndexAddr 1 (.l 0) (.k (.int .i64 0))))) ((zG (.l 3) true .push (zL 1 false (.l 0))) ((zG (.l 4) true .push (zCall (cy Y) 279 [(.l 0)] .push)) ((zG (.l 18) false .push (zP (vPick (.l 5) (.l 0) (.k (.bool false))))) ((zP (vPick (.l 19) (.k (.bool true)) (.l 0))) ((zV 6 (vMv (.l 0))) k)))))))))))))))))))))))))
  zRet) zSkip))))))))))))))))
  (zSeq (zReg fun k => (zP (vFieldAddr 3 (.v 3))) ((zL 1 false (.l 0)) ((zP (vLenL (.l 0))) ((zP (vFieldAddr 4 (.v 3))) ((zL 1 false (.l 0)) ((zP (vLenL (.l 0))) ((zP (vInt E fEql .eql 3 false false (.l 3) (.l 0))) ((zG (.l 0) true .push (zP (vFieldAddr 3 (.v 3)))) ((zG (.l 1) true .push (zL 1 false (.l 0))) ((zG (.l 2) true .push (zCall (cy Y) 280 [(.l 0)] .push)) ((zP (vPick (.l 3) (.l 0) (.k (.bool false)))) ((zG (.l 0) true .push (zP (vFieldAddr 4 (.v 3)))) ((zG (.l 1) true .push (zL 1 false (.l 0))) ((zG (.l 2) true .push (zStep E (cy Y) ⟨.mkFunc 281 [(.v 5)], .push, none, false, 15, none⟩)) ((zG (.l 3) true .push (zCall (cy Y) 276 [(.l 1), (.l 0)] .push)) ((zG (.l 4) true .push (zP (vNot (.l 0)))) ((zP (vPick (.l 5) (.l 0) (.k (.bool false)))) ((zV 6 (vMv (.l 0))) k))))))))))))))))))
  zRet))))), [.tmp (.v 6)]⟩
theorem G208_ok (fn : Nat → Option Func) (pu : Nat → Bool) (pr : Nat → List AV → Option (Heap → Option (Eff × Acc))) : ZOk ⟨Tryz.tyT, fn, pu, pr⟩ npT F208 (G208 ⟨Tryz.tyT, fn, pu, pr⟩) := ⟨by kernel_rfl, by kernel_rfl, by kernel_rfl, fun cy Y k => by kernel_rfl⟩
noncomputable def F209 : FFn := cF LV 0 [0, 1, 2] Tryz.f209
noncomputable def G209 (E : Env) : ZFn := ⟨4, [0, 1, 2], fun cy Y fuel =>
  (zSeq (zReg fun k => (zStep E (cy Y) ⟨.box 288 (.v 0), (.var 1), none, false, 0, (some 0)⟩) ((zV 2 (vMv (.k .nilFunc))) k))
  (zSeq (zReg fun k => (zStep E (cy Y) ⟨.mkFunc 282 [(.v 1)], .push, none, false, 0, none⟩) ((zV 2 (vMv (.l 0))) k))
  zRet)), [.tmp (.v 2)]⟩
theorem G209_ok (fn : Nat → Option Func) (pu : Nat → Bool) (pr : Nat → List AV → Option (Heap → Option (Eff × Acc))) : ZOk ⟨Tryz.tyT, fn, pu, pr⟩ npT F209 (G209 ⟨Tryz.tyT, fn, pu, pr⟩) := ⟨by kernel_rfl, by kernel_rfl, by kernel_rfl, fun cy Y k => by kernel_rfl⟩
noncomputable def F210 : FFn := cF LV 0 [1, 7, 6, 5, 0, 4] Tryz.f210
noncomputable def G210 (E : Env) : ZFn := ⟨16, [1, 7, 6, 5, 0, 4], fun cy Y fuel =>
  (zSeq (zReg fun k => (zDstW (.var 3) (wLoad 1 false (.v 0))) ((zV 2 (vLenL (.v 3))) ((zV 1 (vMv (.k (.int .i64 0)))) k)))
  (zBlock 0 (zLoop fuel (zSeq (zReg fun k => (zP (vInt E fLss .lss 3 false false (.v 1) (.v 2))) k)
  (zSeq (zCond (.l 0) zSkip (zExit 0))
  (zSeq (zBlock 1 (zSeq (zReg fun k => (zP (vIndexAddr 2 (.v 3) (.v 1))) ((zL 2 true (.l 0)) ((zStep E (cy Y) ⟨.alloc 153, (.var 5), none, false, 2, (some 0)⟩) ((zStep E (cy Y) ⟨.store 153 (.v 5) (.l 0), .none, none, false, 3, none⟩) k))))
  (zSeq (zReg fun k => (zL 2 true (.v 5)) ((zStep E (cy Y) ⟨.callv (.v 4) [(.l 0)], .push, none, false, 2, (some 0)⟩) ((zP (vNot (.l 0))) k)))
  (zCond (.l 0) zRet zSkip))))
  (zReg fun k => (zP (vInt E fAdd .add 3 false true (.v 1) (.k (.int .i64 1)))) ((zV 1 (vMv (.l 0))) k)))))))), []⟩
theorem G210_ok (fn : Nat → Option Func) (pu : Nat → Bool) (pr : Nat → List AV → Option (Heap → Option (Eff × Acc))) : ZOk ⟨Tryz.tyT, fn, pu, pr⟩ npT F210 (G210 ⟨Tryz.tyT, fn, pu, pr⟩) := ⟨by kernel_rfl, by kernel_rfl, by kernel_rfl, fun cy Y k => by kernel_rfl⟩
noncomputable def F217 : FFn := cF LV 0 [0, 1, 2, 3, 9, 10, 4, 5, 6, 7] Tryz.f217
noncomputable def G217 (E : Env) : ZFn := ⟨76, [0, 1, 2, 3, 9, 10, 4, 5, 6, 7], fun cy Y fuel =>
  (zSeq (zReg fun k => (zStep E (cy Y) ⟨.box 81 (.v 0), (.var 3), none, false, 0, (some 0)⟩) ((zStep E (cy Y) ⟨.box 38 (.v 1), (.var 6), none, false, 1, (some 1)⟩) ((zStep E (cy Y) ⟨.box 38 (.v 2), (.var 7), none, false, 2, (some 2)⟩) ((zStep E (cy Y) ⟨.alloc 38, (.var 8), none, false, 3, (some 3)⟩) ((zV 9 (vMv (.k .nilIface))) k)))))
  (zSeq (zSeq (zReg fun k => (zP (vFieldAddr 0 (.v 3))) ((zDstW (.var 4) (wLoad 1 false (.l 0))) k))
  (zBlock 0 (zSeq (zSeq (zReg fun k => (zP (vInt E fEql .eql 3 false true (.v 4) (.k (.int .i64 1)))) ((zV 5 (vMv (.l 0))) k))
  (zCond (.v 5) zSkip (zReg fun k => (zP (vInt E fEql .eql 3 false true (.v 4) (.k (.int .i64 2)))) ((zV 5 (vMv (.l 0))) k))))
  (zCond (.v 5) (zReg fun k => (zP (vFieldAddr 0 (.v 6))) ((zL 1 false (.l 0)) ((zP (vFieldAddr 0 (.v 7))) ((zL 1 false (.l 0)) ((zStep E (cy Y) ⟨.most true [(.l 2), (.l 0)], .push, none, false, 4, none⟩) ((zP (vFieldAddr 0 (.v 8))) ((zStep E (cy Y) ⟨.store 33 (.l 0) (.l 1), .none, none, false, 6, none⟩) k))))))) (zSeq (zReg fun k => (zP (vInt E fEql .eql 3 false true (.v 4) (.k (.int .i64 3)))) ((zP (vMv (.l 0))) k))
  (zCond (.l 0) (zReg fun k => (zP (vFieldAddr 2 (.v 6))) ((zL 1 false (.l 0)) ((zP (vFieldAddr 2 (.v 7))) ((zL 1 false (.l 0)) ((zCall (cy Y) 183 [(.l 2), (.l 0)] .push) ((zP (vFieldAddr 2 (.v 8))) ((zStep E (cy Y) ⟨.store 34 (.l 0) (.l 1), .none, none, false, 6, none⟩) k))))))) (zSeq (zReg fun k => (zP (vInt E fEql .eql 3 false true (.v 4) (.k (.int .i64 4)))) ((zP (vMv (.l 0))) k))
  (zCond (.l 0) (zReg fun k => (zL 2 true (.v 3)) ((zL 5 true (.v 6)) ((zL 5 true (.v 7)) ((zCall (cy Y) 290 [(.l 2), (.l 1), (.l 0)] .push) ((zP (vExtract 0 (.l 0))) ((zP (vExtract 1 (.l 1))) ((zStep E (cy Y) ⟨.store 38 (.v 8) (.l 1), .none, none, false, 7, none⟩) ((zV 9 (vMv (.l 0))) k)))))))) (zSeq (zReg fun k => (zP (vInt E fEql .eql 3 false true (.v 4) (.k (.int .i64 5)))) ((zP (vMv (.l 0))) k))
  (zCond (.l 0) (zReg fun k => (zL 2 true (.v 3)) ((zL 5 true (.v 6)) ((zL 5 true (.v 7)) ((zCall (cy Y) 291 [(.l 2), (.l 1), (.l 0)] .push) ((zP (vExtract 0 (.l 0))) ((zP (vExtract 1 (.l 1))) ((zStep E (cy Y) ⟨.store 38 (.v 8) (.l 1), .none, none, false, 7, none⟩) ((zV 9 (vMv (.l 0))) k)))))))) (zSeq (zReg fun k => (zP (vInt E fEql .eql 3 false true (.v 4) (.k (.int .i64 6)))) ((zP (vMv (.l 0))) k))
  (zCond (.l 0) (zReg fun k => (zL 5 true (.v 6)) ((zL 5 true (.v 7)) ((zCall (cy Y) 292 [(.l 1), (.l 0)] .push) ((zStep E (cy Y) ⟨.store 38 (.v 8) (.l 0), .none, none, false, 3, none⟩) k)))) (zSeq (zReg fun k => (zP (vInt E fEql .eql 3 false true (.v 4) (.k (.int .i64 7)))) ((zP (vMv (.l 0))) k))
  (zCond (.l 0) (zReg fun k => (zL 5 true (.v 6)) ((zL 5 true (.v 7)) ((zCall (cy Y) 293 [(.l 1), (.l 0)] .push) ((zStep E (cy Y) ⟨.store 38 (.v 8) (.l 0), .none, none, false, 3, none⟩) k)))) (zSeq (zReg fun k => (zP (vInt E fEql .eql 3 false true (.v 4) (.k (.int .i64 8)))) ((zP (vMv (.l 0))) k))
  (zCond (.l 0) (zReg fun k => (zL 2 true (.v 3)) ((zL 5 true (.v 6)) ((zL 5 true (.v 7)) ((zCall (cy Y) 294 [(.l 2), (.l 1), (.l 0)] .push) ((zP (vExtract 0 (.l 0))) ((zP (vExtract 1 (.l 1))) ((zStep E (cy Y) ⟨.store 38 (.v 8) (.l 1), .none, none, false, 7, none⟩) ((zV 9 (vMv (.l 0))) k)))))))) zSkip))))))))))))))))
  (zSeq (zSeq (zReg fun k => (zP (vInt E fEql .eql 55 false true (.v 9) (.k .nilIface))) ((zG (.l 0) true .push (zL 5 true (.v 8))) ((zG (.l 1) true .push (zCall (cy Y) 295 [(.l 0)] .push)) ((zP (vPick (.l 2) (.l 0) (.k (.bool false)))) k))))
  (zCond (.l 0) (zReg fun k => (zStep E (cy Y) ⟨.mkIface 66 (.k (.int .i64 13)), .push, none, false, 0, none⟩) ((zV 9 (vMv (.l 0))) k)) zSkip))
  (zSeq (zSeq (zReg fun k => (zP (vInt E fNeq .neq 55 false true (.v 9) (.k .nilIface))) k)
  (zCond (.l 0) (zSeq (zReg fun k => (zStep E (cy Y) ⟨.build 38 [], .push, none, false, 0, none⟩) ((zP (vMv (.v 9))) ((zStep E (cy Y) ⟨.store 38 (.v 8) (.l 1), .none, none, false, 2, none⟩) ((zV 9 (vMv (.l 0))) k))))
  zRet) zSkip))
  (zSeq (zReg fun k => (zL 5 true (.v 8)) ((zStep E (cy Y) ⟨.store 38 (.v 8) (.l 0), .none, none, false, 1, none⟩) ((zV 9 (vMv (.k .nilIface))) k)))
  zRet))))), [.cell (.v 8) 38, .tmp (.v 9)]⟩
theorem G217_ok (fn : Nat → Option Func) (pu : Nat → Bool) (pr : Nat → List AV → Option (Heap → Option (Eff × Acc))) : ZOk ⟨Tryz.tyT, fn, pu, pr⟩ npT F217 (G217 ⟨Tryz.tyT, fn, pu, pr⟩) := ⟨by kernel_rfl, by kernel_rfl, by kernel_rfl, fun cy Y k => by kernel_rfl⟩
noncomputable def F218 : FFn := cF LV 0 [0, 7, 6, 3, 4, 2] Tryz.f218
noncomputable def G218 (E : Env) : ZFn := ⟨19, [0, 7, 6, 3, 4, 2], fun cy Y fuel =>
  (zSeq (zReg fun k => (zV 5 (vMv (.k (.int .u64 0)))) k)
  (zSeq (zReg fun k => (zV 3 (vMv (.k (.int .u64 14695981039346656037)))) k)
  (zSeq (zSeq (zReg fun k => (zV 2 (vLenS (.v 0))) ((zV 1 (vMv (.k (.int .i64 0)))) k))
  (zBlock 0 (zLoop fuel (zSeq (zReg fun k => (zP (vInt E fLss .lss 3 false false (.v 1) (.v 2))) k)
  (zSeq (zCond (.l 0) zSkip (zExit 0))
  (zSeq (zBlock 1 (zSeq (zReg fun k => (zV 4 (vMv (.v 1))) k)
  (zReg fun k => (zP (vMv (.v 3))) ((zStep E (cy Y) ⟨.index 9 (.v 0) (.v 4), .push, none, false, 3, none⟩) ((zP (vConv .u64 (.l 0))) ((zP (vInt E (fGen .xor) .xor 33 false false (.l 2) (.l 0))) ((zP (vInt E (fGen .mul) .mul 33 false true (.l 0) (.k (.int .u64 1099511628211)))) ((zV 3 (vMv (.l 0))) k))))))))
  (zReg fun k => (zP (vInt E fAdd .add 3 false true (.v 1) (.k (.int .i64 1)))) ((zV 1 (vMv (.l 0))) k))))))))
  (zSeq (zReg fun k => (zV 5 (vMv (.v 3))) k)
  zRet)))), [.tmp (.v 5)]⟩
theorem G218_ok (fn : Nat → Option Func) (pu : Nat → Bool) (pr : Nat → List AV → Option (Heap → Option (Eff × Acc))) : ZOk ⟨Tryz.tyT, fn, pu, pr⟩ npT F218 (G218 ⟨Tryz.tyT, fn, pu, pr⟩) := ⟨by kernel_rfl, by kernel_rfl, by kernel_rfl, fun cy Y k => by kernel_rfl⟩
noncomputable def F223 : FFn := cF LV 0 [0, 1, 3, 2, 4] Tryz.f223
noncomputable def G223 (E : Env) : ZFn := ⟨20, [0, 1, 3, 2, 4], fun cy Y fuel =>
  (zSeq (zReg fun k => (zStep E (cy Y) ⟨.box 81 (.v 0), (.var 3), none, false, 0, (some 0)⟩) ((zStep E (cy Y) ⟨.box 3 (.v 1), (.var 2), none, false, 1, (some 1)⟩) ((zV 4 (vMv (.k (.bool false)))) k)))
  (zSeq (zSeq (zDreg 1 fun n0 k => (zLD B41 0 1 false (.v 2)) ((zPD (vInt E fEql .eql 3 false true (.l 0) (.k (.int .i64 0)))) ((zGD (.l 0) false .push (zPD (vFieldAddr 0 (.v 3)))) ((zGD (.l 1) false .push (zLD B41 4 1 false (.l 0))) ((zGD (.l 2) false .push (zCallD (cy Y) B41 5 300 [(.l 0)] .push)) ((zGD (.l 3) false .push (zPD (vFieldAddr 1 (.v 3)))) ((zGD (.l 4) false .push (zLD B41 7 1 false (.l 0))) ((zGD (.l 5) false .push (zPD (vLenL (.l 0)))) ((zGD (.l 6) false .push (zPD (vInt E fNeq .neq 3 false false (.l 3) (.l 0)))) ((zPD (vPick (.l 7) (.k (.bool true)) (.l 0))) k))))))))))
  (zCond (.l 0) (zSeq (zReg fun k => (zV 4 (vMv (.k (.bool false)))) k)
  zRet) zSkip))
  (zSeq (zReg fun k => (zP (vFieldAddr 1 (.v 3))) ((zL 1 false (.l 0)) ((zStep E (cy Y) ⟨.mkFunc 302 [(.v 2)], .push, none, false, 2, none⟩) ((zCall (cy Y) 301 [(.l 1), (.l 0)] .push) ((zV 4 (vMv (.l 0))) k)))))
  zRet))), [.tmp (.v 4)]⟩
theorem G223_ok (fn : Nat → Option Func) (pu : Nat → Bool) (pr : Nat → List AV → Option (Heap → Option (Eff × Acc))) : ZOk ⟨Tryz.tyT, fn, pu, pr⟩ npT F223 (G223 ⟨Tryz.tyT, fn, pu, pr⟩) := ⟨by kernel_rfl, by kernel_rfl, by kernel_rfl, fun cy Y k => by kernel_rfl⟩
noncomputable def F229 : FFn := cF LV 0 [0, 2] Tryz.f229
noncomputable def G229 (E : Env) : ZFn := ⟨6, [0, 2], fun cy Y fuel =>
  (zSeq (zReg fun k => (zV 1 (vMv (.k (.bool false)))) k)
  (zSeq (zReg fun k => (zP (vInt E fNeq .neq 3 false false (.v 0) (.v 0))) ((zV 1 (vMv (.l 0))) k))
  zRet)), [.tmp (.v 1)]⟩
theorem G229_ok (fn : Nat → Option Func) (pu : Nat → Bool) (pr : Nat → List AV → Option (Heap → Option (Eff × Acc))) : ZOk ⟨Tryz.tyT, fn, pu, pr⟩ npT F229 (G229 ⟨Tryz.tyT, fn, pu, pr⟩) := ⟨by kernel_rfl, by kernel_rfl, by kernel_rfl, fun cy Y k => by kernel_rfl⟩
noncomputable def F230 : FFn := cF LV 6 [0, 1, 5, 4] Tryz.f230
noncomputable def G230 (E : Env) : ZFn := ⟨18, [0, 1, 5, 4], fun cy Y fuel =>
  (zSeq (zReg fun k => (zV 3 (vMv (.k (.sl 0 [] true)))) k)
  (zSeq (zReg fun k => (zStep E (cy Y) ⟨.alloc 98, (.var 2), none, false, 0, (some 0)⟩) k)
  (zSeq (zSeq (zReg fun k => (zCall (cy Y) 308 [(.v 1)] .push) ((zCall (cy Y) 307 [(.v 0), (.l 0)] .push) ((zCall (cy Y) 306 [(.l 0)] .push) k)))
  (zBlock 0 (zRange cy Y (.l 0) 6 [none, (some (.v 2)), none] [none, none, none, none, none, (some (.v 2)), none, none, none, none, none, none, none, none, none, none, none, none] [12] (codeAt [1, 1, 0, 1, 0, 0] (bodyOf Tryz.f230)) (codeAt [1, 1, 0, 1, 0, 1] (bodyOf Tryz.f230)))))
  (zSeq (zReg fun k => (zL 1 false (.v 2)) ((zV 3 (vMv (.l 0))) k))
  zRet)))), [.tmp (.v 3)]⟩
theorem G230_ok (fn : Nat → Option Func) (pu : Nat → Bool) (pr : Nat → List AV → Option (Heap → Option (Eff × Acc))) : ZOk ⟨Tryz.tyT, fn, pu, pr⟩ npT F230 (G230 ⟨Tryz.tyT, fn, pu, pr⟩) := ⟨by kernel_rfl, by kernel_rfl, by kernel_rfl, fun cy Y k => by kernel_rfl⟩
noncomputable def F231 : FFn := cF LV 0 [2, 0, 1, 10, 5, 6, 9, 13, 11, 15, 14, 16, 7, 8] Tryz.f231
noncomputable def G231 (E : Env) : ZFn := ⟨105, [2, 0, 1, 10, 5, 6, 9, 13, 11, 15, 14, 16, 7, 8], fun cy Y fuel =>
  (zSeq (zReg fun k => (zStep E (cy Y) ⟨.box 38 (.v 0), (.var 4), none, false, 0, (some 0)⟩) ((zStep E (cy Y) ⟨.alloc 38, (.var 5), none, false, 1, (some 1)⟩) ((zV 12 (vMv (.k (.bool false)))) ((zV 13 (vMv (.k .nilIface))) k))))
  (zSeq (zReg fun k => (zP (vNilCheck (.v 1))) ((zP (vFieldAddr 0 (.l 0))) ((zL 1 false (.l 0)) ((zCall (cy Y) 78 [(.l 0), (.v 2)] .push) ((zP (vExtract 0 (.l 0))) ((zP (vExtract 1 (.l 1))) ((zStep E (cy Y) ⟨.alloc 83, (.var 6), none, false, 9, (some 1)⟩) ((zStep E (cy Y) ⟨.store 83 (.v 6) (.l 1), .none, none, false, 10, none⟩) ((zV 3 (vMv (.l 0))) k)))))))))
  (zSeq (zSeq (zReg fun k => (zP (vNot (.v 3))) k)
  (zCond (.l 0) (zSeq (zReg fun k => (zL 5 true (.v 4)) ((zStep E (cy Y) ⟨.mkIface 66 (.k (.int .i64 10)), .push, none, false, 1, none⟩) ((zStep E (cy Y) ⟨.store 38 (.v 5) (.l 1), .none, none, false, 2, none⟩) ((zV 12 (vMv (.k (.bool false)))) ((zV 13 (vMv (.l 0))) k)))))
  zRet) zSkip))
  (zSeq (zSeq (zReg fun k => (zP (vFieldAddr 2 (.v 6))) ((zL 2 true (.l 0)) ((zL 5 true (.v 4)) ((zStep E (cy Y) ⟨.call 141 [(.l 1), (.l 0)], .push, none, false, 3, (some 0)⟩) ((zP (vNot (.l 0))) k)))))
  (zCond (.l 0) (zSeq (zReg fun k => (zL 5 true (.v 4)) ((zStep E (cy Y) ⟨.mkIface 66 (.k (.int .i64 14)), .push, none, false, 1, none⟩) ((zStep E (cy Y) ⟨.store 38 (.v 5) (.l 1), .none, none, false, 2, none⟩) ((zV 12 (vMv (.k (.bool false)))) ((zV 13 (vMv (.l 0))) k)))))
  zRet) zSkip))
  (zSeq (zReg fun k => (zCall (cy Y) 46 [(.v 1), (.v 2)] .push) ((zStep E (cy Y) ⟨.alloc 38, (.var 8), none, false, 3, (some 1)⟩) ((zStep E (cy Y) ⟨.store 38 (.v 8) (.l 0), .none, none, false, 4, none⟩) k)))
  (zSeq (zReg fun k => (zP (vNilCheck (.v 1))) ((zP (vFieldAddr 1 (.l 0))) ((zP (vFieldAddr 1 (.l 0))) ((zL 1 false (.l 0)) ((zStep E (cy Y) ⟨.lookup 87 (.l 0) (.v 2) true, .push, none, false, 6, none⟩) ((zP (vExtract 0 (.l 0))) ((zP (vExtract 1 (.l 1))) ((zStep E (cy Y) ⟨.alloc 38, .push, none, false, 10, (some 0)⟩) ((zStep E (cy Y) ⟨.store 38 (.l 0) (.l 2), .none, none, false, 11, none⟩) ((zV 7 (vMv (.l 1))) k))))))))))
  (zSeq (zSeq (zReg fun k => (zP (vNot (.v 7))) ((zG (.l 0) true .push (zP (vFieldAddr 2 (.v 6)))) ((zG (.l 1) true .push (zL 2 true (.l 0))) ((zG (.l 2) true .push (zL 5 true (.v 4))) ((zG (.l 3) true .push (zCall (cy Y) 143 [(.l 1), (.l 0)] .push)) ((zG (.l 4) true .push (zP (vNot (.l 0)))) ((zP (vPick (.l 5) (.l 0) (.k (.bool false)))) ((zG (.l 0) true .push (zP (vMv (.v 1)))) ((zG (.l 1) true .push (zP (vNilCheck (.l 0)))) ((zG (.l 2) true .push (zP (vFieldAddr 1 (.l 0)))) ((zG (.l 3) true .push (zP (vFieldAddr 0 (.l 0)))) ((zG (.l 4) true .push (zL 1 false (.l 0))) ((zG (.l 5) true .push (zP (vLenL (.l 0)))) ((zG (.l 6) true .push (zP (vInt E (fGen .geq) .geq 3 false true (.l 0) (.k (.int .i64 24))))) ((zP (vPick (.l 7) (.l 0) (.k (.bool false)))) k)))))))))))))))
  (zCond (.l 0) (zSeq (zReg fun k => (zL 5 true (.v 4)) ((zStep E (cy Y) ⟨.mkIface 66 (.k (.int .i64 15)), .push, none, false, 1, none⟩) ((zStep E (cy Y) ⟨.store 38 (.v 5) (.l 1), .none, none, false, 2, none⟩) ((zV 12 (vMv (.k (.bool false)))) ((zV 13 (vMv (.l 0))) k)))))
  zRet) zSkip))
  (zSeq (zReg fun k => (zP (vFieldAddr 2 (.v 6))) ((zL 2 true (.l 0)) ((zL 5 true (.v 8)) ((zL 5 true (.v 4)) ((zStep E (cy Y) ⟨.call 150 [(.l 2), (.l 1), (.l 0)], .push, none, false, 4, (some 0)⟩) ((zP (vExtract 0 (.l 0))) ((zP (vExtract 1 (.l 1))) ((zStep E (cy Y) ⟨.alloc 38, (.var 10), none, false, 8, (some 1)⟩) ((zStep E (cy Y) ⟨.store 38 (.v 10) (.l 1), .none, none, false, 9, none⟩) ((zV 9 (vMv (.l 0))) k))))))))))
  (zSeq (zSeq (zReg fun k => (zP (vInt E fEql .eql 55 false true (.v 9) (.k .nilIface))) ((zG (.l 0) true .push (zP (vFieldAddr 2 (.v 6)))) ((zG (.l 1) true .push (zL 2 true (.l 0))) ((zG (.l 2) true .push (zL 5 true (.v 10))) ((zG (.l 3) true .push (zCall (cy Y) 197 [(.l 1), (.l 0)] .push)) ((zG (.l 4) true .push (zP (vLenS (.l 0)))) ((zG (.l 5) true .push (zP (vInt E fGtr .gtr 3 false true (.l 0) (.k (.int .i64 4000))))) ((zP (vPick (.l 6) (.l 0) (.k (.bool false)))) k))))))))
  (zCond (.l 0) (zReg fun k => (zStep E (cy Y) ⟨.mkIface 66 (.k (.int .i64 13)), .push, none, false, 0, none⟩) ((zV 9 (vMv (.l 0))) k)) zSkip))
  (zSeq (zSeq (zReg fun k => (zP (vInt E fNeq .neq 55 false true (.v 9) (.k .nilIface))) k)
  (zCond (.l 0) (zSeq (zReg fun k => (zL 5 true (.v 4)) ((zStep E (cy Y) ⟨.store 38 (.v 5) (.l 0), .none, none, false, 2, none⟩) ((zV 12 (vMv (.k (.bool false)))) ((zV 13 (vMv (.v 9))) k))))
  zRet) zSkip))
  (zSeq (zReg fun k => (zP (vFieldAddr 2 (.v 6))) ((zL 2 true (.l 0)) ((zL 5 true (.v 10)) ((zL 5 true (.v 8)) ((zCall (cy Y) 155 [(.l 2), (.l 1), (.l 0)] .push) ((zP (vExtract 0 (.l 0))) ((zP (vExtract 1 (.l 1))) ((zV 11 (vMv (.l 1))) ((zV 9 (vMv (.l 0))) k)))))))))
  (zSeq (zReg fun k => (zL 5 true (.v 10)) ((zP (vNot (.v 11))) ((zStep E (cy Y) ⟨.store 38 (.v 5) (.l 1), .none, none, false, 4, none⟩) ((zV 12 (vMv (.l 0))) ((zV 13 (vMv (.v 9))) k)))))
  zRet)))))))))))), [.cell (.v 5) 38, .tmp (.v 12), .tmp (.v 13)]⟩
theorem G231_ok (fn : Nat → Option Func) (pu : Nat → Bool) (pr : Nat → List AV → Option (Heap → Option (Eff × Acc))) : ZOk ⟨Tryz.tyT, fn, pu, pr⟩ npT F231 (G231 ⟨Tryz.tyT, fn, pu, pr⟩) := ⟨by kernel_rfl, by kernel_rfl, by kernel_rfl, fun cy Y k => by kernel_rfl⟩
noncomputable def F232 : FFn := cF LV 0 [2, 0, 1, 7, 6, 5] Tryz.f232
noncomputable def G232 (E : Env) : ZFn := ⟨36, [2, 0, 1, 7, 6, 5], fun cy Y fuel =>
  (zSeq (zReg fun k => (zStep E (cy Y) ⟨.box 38 (.v 0), (.var 5), none, false, 0, (some 0)⟩) k)
  (zSeq (zSeq (zReg fun k => (zP (vNilCheck (.v 1))) ((zP (vFieldAddr 0 (.l 0))) ((zL 1 false (.l 0)) ((zCall (cy Y) 309 [(.l 0), (.v 2)] .push) ((zP (vExtract 0 (.l 0))) ((zP (vExtract 1 (.l 1))) ((zV 4 (vMv (.l 1))) ((zV 3 (vMv (.l 0))) k))))))))
  (zSeq (zReg fun k => (zP (vNot (.v 3))) k)
  (zCond (.l 0) (zReg fun k => (zP (vNilCheck (.v 1))) ((zP (vFieldAddr 0 (.l 0))) ((zL 1 false (.l 0)) ((zStep E (cy Y) ⟨.buildSlice 34 1 [(0, (.v 2))], .push, none, false, 7, (some 0)⟩) ((zStep E (cy Y) ⟨.call 310 [(.l 1), (.v 4), (.l 0)], .push, none, false, 8, (some 1)⟩) ((zP (vNilCheck (.v 1))) ((zP (vFieldAddr 0 (.l 0))) ((zStep E (cy Y) ⟨.store 34 (.l 0) (.l 2), .none, none, false, 11, none⟩) k)))))))) zSkip)))
  (zDreg 0 fun n0 k => (zPD (vNilCheck (.v 1))) ((zPD (vFieldAddr 1 (.l 0))) ((zLD B42 3 1 false (.l 0)) ((zLD B42 5 5 true (.v 5)) ((zStepD E (cy Y) B42 n0 ⟨.mapUp 87 (.l 1) (.v 2) (.l 0), .none, none, false, 6, none⟩) k))))))), []⟩
theorem G232_ok (fn : Nat → Option Func) (pu : Nat → Bool) (pr : Nat → List AV → Option (Heap → Option (Eff × Acc))) : ZOk ⟨Tryz.tyT, fn, pu, pr⟩ npT F232 (G232 ⟨Tryz.tyT, fn, pu, pr⟩) := ⟨by kernel_rfl, by kernel_rfl, by kernel_rfl, fun cy Y k => by kernel_rfl⟩
end Go.Proofs.PxDt
