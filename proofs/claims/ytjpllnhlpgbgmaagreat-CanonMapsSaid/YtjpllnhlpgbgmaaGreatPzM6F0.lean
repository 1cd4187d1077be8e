/- The functions of the seat, in one breath: part 0. -/
import Derived.Test.YtjpllnhlpgbgmaaGreatPb3
import Derived.Test.YtjpllnhlpgbgmaaGreatProg
import Derived.Test.YtjpllnhlpgbgmaaGreatPxEnvM6
import Derived.KernelRfl
set_option maxRecDepth 100000
set_option linter.unusedVariables false
set_option linter.unusedSimpArgs false
namespace Go.Proofs.PxM6
open Go Go.Px Go.Proofs
def B0 : List Nat := [0, 1, 0, 4, 12, 28, 60, 127, 0, 256, 0, 1024, 3072, 8191, 1023, 32767, 65535, 131071]
def B1 : List Nat := [0, 1, 3, 0, 15, 31, 63, 63, 0, 383, 1023]
def B2 : List Nat := [0, 1, 0, 4, 12, 28, 60, 124, 255, 0, 512, 0, 2048, 6144, 14336, 30720, 65535, 2047, 262143, 524287, 1048575]
def B3 : List Nat := [0, 0, 3, 7, 15, 31, 0, 0, 192, 448, 960, 1984, 4032, 8128, 63, 32767]
def B4 : List Nat := [0, 1, 0, 0, 0, 24, 60, 124, 255, 0, 512, 0, 0, 6144, 14336, 30720, 63488, 129024, 260096, 524287, 2047, 2097151, 4194303, 8388607]
def B5 : List Nat := [0, 0, 2, 6, 15, 31, 63, 127, 63, 511, 1023, 2047, 4095, 8191, 16383, 32767, 65535, 32767, 262143, 524287, 1048575, 2097151, 4194303, 32767, 16777215, 33554431, 67108863, 134217727, 268435455, 134217727, 1073741823, 2147483647, 4294967295, 8589934591, 17179869183, 134217727, 34493956095, 103213432831, 274877906943, 549755813887]
def B6 : List Nat := [0, 1, 3, 7, 15, 31, 7, 127, 255, 511, 1023, 2047, 4095, 1023, 16383, 32767, 65535]
def B7 : List Nat := [0, 1, 0, 7, 15, 0, 32, 0, 224, 480, 1023, 2047]
def B8 : List Nat := [0, 1, 3, 7, 15, 31, 63, 127, 255, 255, 767, 1791, 4095, 8191, 16383, 255, 33023, 131071, 262143, 524287]
def B9 : List Nat := [0, 0, 3, 7, 0, 0, 48, 112, 255]
def B10 : List Nat := [0, 1, 0, 0, 8, 24, 56, 124, 255, 511, 0, 2047, 4095]
def B11 : List Nat := [0, 1, 3, 7, 0, 16, 0, 112, 240, 511, 1023, 2047, 4095, 8191, 16383, 32767, 4095, 69631, 4095, 462847, 987135, 2097151, 4194303]
def B12 : List Nat := [0, 1, 3, 7, 0, 16, 48, 112, 255, 511, 1023, 2047, 4095, 8191, 1023, 17407, 50175, 115711, 262143, 524287, 1048575]
def B13 : List Nat := [0, 1, 0, 4, 15, 0, 32, 0, 128, 511, 1023, 2047, 4095]
def B14 : List Nat := [0, 1, 3, 7, 15, 31, 7, 71, 199, 511, 1023]
def B15 : List Nat := [0, 1, 3, 7, 15, 15, 47, 127, 255, 511]
def B16 : List Nat := [0, 1, 3, 7, 15, 31, 63, 127, 255, 511, 511, 1535, 4095, 8191, 16383]
def B17 : List Nat := [0, 1, 3, 3, 3, 19, 51, 123, 255, 511, 1023]
def B18 : List Nat := [0, 1, 3, 3, 3, 19, 51, 3, 131, 387, 1019, 2047, 4095, 8191]
def B19 : List Nat := [0, 1, 3, 3, 11, 31, 63, 127]
def B20 : List Nat := [0, 1, 3, 3, 3, 19, 51, 115, 251, 511, 1023, 2047]
def B21 : List Nat := [0, 0, 0, 4, 0, 28, 63, 127, 127, 511, 1023]
def B22 : List Nat := [0, 0, 2, 7, 15, 0, 0, 96, 224, 511]
def B23 : List Nat := [0, 0, 3, 7, 15, 31, 63, 127, 127, 511, 1023, 2047, 4095, 8191, 16383, 32767, 32767, 131071, 262143, 524287, 1048575, 2097151, 4194303, 8388607, 16777215, 33554431, 67108863, 67108863, 201326591, 536870911, 1073741823, 2147483647, 67108863, 67108863, 12952010751, 30131879935, 64491618303, 137438953471, 274877906943, 549755813887]
def B24 : List Nat := [0, 1, 0, 7, 15, 31, 63, 127, 255, 511, 1023, 2047, 255, 4351, 255, 28927, 61695, 131071, 262143, 524287, 1048575, 2097151, 4194303, 8388607, 16777215, 33554431, 16777215, 83886079, 268435455, 536870911, 16777215, 1090519039, 16777215, 7532969983, 16122904575, 34359738367, 68719476735, 137438953471, 274877906943]
def B25 : List Nat := [0, 0, 3, 7, 0, 0, 32, 112, 240, 511]
def B26 : List Nat := [0, 1, 3, 7, 0, 31, 63, 127, 127, 255, 1023]
def B27 : List Nat := [0, 1, 3, 7, 15, 31, 63, 7, 255, 511]
def B28 : List Nat := [0, 1, 0, 7, 15, 31, 0, 64, 255, 511, 1023]
def B29 : List Nat := [0, 1, 0, 7, 15]
def B30 : List Nat := [0, 0, 3, 7, 15, 0, 0, 96, 224, 480, 1023]
def B31 : List Nat := [0, 0, 3, 7, 15, 0, 0, 96, 224, 480, 1023, 2047]
def B32 : List Nat := [0, 0, 3, 7, 15, 15, 15, 111, 239, 15, 15, 1039, 3599, 7695, 16383, 32767, 65535]
def B33 : List Nat := [0, 0, 0, 0, 8, 0, 0, 64, 224, 480, 0, 0, 3072, 7168, 16355, 32739, 65535, 131071]
def B34 : List Nat := [0, 1, 3, 7, 15, 31, 63, 127, 255, 31, 543, 1567, 3615, 8191, 16383, 32767, 65535, 131071, 262143, 524287, 65535, 1114111, 3211263, 7405567, 16777215, 33554431, 67108863]
def B35 : List Nat := [0, 1, 3, 7, 7, 23, 63, 127, 7, 7, 775, 1799, 4095, 8191, 16383]
def B36 : List Nat := [0, 0, 3, 7, 15, 0, 0, 0, 192, 448, 960, 2016, 4095]
def B37 : List Nat := [0, 1, 3, 7, 0, 31, 63]
def B38 : List Nat := [0, 0, 3, 7, 15, 31, 63, 127, 255, 31, 1023, 2047, 4095]
def B39 : List Nat := [0, 1, 3, 7, 15, 31, 63, 127, 255, 511, 1023, 2047, 4095, 8191, 16383, 32767, 65535, 131071, 262143, 131071, 131071, 1179647, 3801087, 7995391, 16383999, 33554431, 67108863, 134217727]
def B40 : List Nat := [0, 0, 3, 7, 15, 15, 63, 127, 15, 15, 527, 1807, 3855, 8191, 16383]
def B41 : List Nat := [0, 1, 3, 7, 15, 0, 32, 96, 224, 511, 1023, 2047, 4095]
def B42 : List Nat := [0, 1, 0, 4, 15, 0, 32, 0, 128, 511, 1023]
def B43 : List Nat := [0, 1, 3, 7, 0, 31, 63, 127, 127, 0, 767, 2047]
def B44 : List Nat := [0, 1, 0, 4, 12, 31, 0, 64, 0, 256, 1023, 255, 4095, 8191, 16383]
def B45 : List Nat := [0, 0, 0, 6, 14, 0, 0, 96, 224, 511, 1023]
def B46 : List Nat := [0, 0, 2, 6, 14, 0, 32, 96, 224, 511, 1023, 1023, 4095, 8191]
def B47 : List Nat := [0, 0, 0, 4, 14, 30, 0, 0, 192, 448, 1023, 2047]
def B48 : List Nat := [0, 0, 2, 6, 0, 16, 48, 127, 255]
def B49 : List Nat := [0, 0, 2, 6, 14, 31, 0, 64, 63, 511]
def B50 : List Nat := [0, 0, 0, 4, 12, 0, 32, 96, 254, 510, 1023, 0, 2048, 0, 8192, 2047, 40959, 131071]
def B51 : List Nat := [0, 1, 3, 7, 15, 31, 63, 127, 255, 255, 767, 1791, 3839, 255, 8447, 24831, 57599, 131071, 262143, 524287, 1048575, 2097151]
def B52 : List Nat := [0, 1, 3, 0, 8, 7, 63]
def B53 : List Nat := [0, 1, 3, 7, 15, 15, 47, 111, 239, 15, 527, 1551, 3599, 8191, 16383, 32767, 65535]
def B54 : List Nat := [0, 1, 3, 7, 0, 16, 48, 112, 0, 256, 768, 1792, 4095, 0, 8192, 0, 32768, 8191, 163839, 524287]
def LVL : List (Nat × List Nat) := [(0, [11, 12, 9, 3, 4, 8, 6, 7]), (1, [19, 20, 5, 6, 2]), (2, [7, 8, 3, 4, 2]), (3, [23, 3, 9, 11, 6, 7, 8, 10]), (4, [7, 2, 5])]
def LV (id : Nat) : List Nat := (lookT LVL id).getD []
def toldT : List Nat := [12, 20, 57, 163]
def npT (f : Nat) : Bool := !(toldT.any fun g => Nat.beq g f)
noncomputable def L0 : LFn := ⟨27, [11, 12, 9, 3, 4, 8, 6, 7], [(some 0), (some 1)], cC LV [11, 12, 9, 3, 4, 8, 6, 7] 27 (codeAt [1, 0, 1, 0, 0] (bodyOf Tryz.f62)) 0, cC LV [11, 12, 9, 3, 4, 8, 6, 7] 27 (codeAt [1, 0, 1, 0, 1] (bodyOf Tryz.f62)) 0⟩
noncomputable def M0 (E : Env) : ZLn := ⟨27, [11, 12, 9, 3, 4, 8, 6, 7], [(some 0), (some 1)], fun cy Y fuel =>
 (zSeq (zReg fun k => (zStep E (cy Y) ⟨.alloc 29, (.var 5), none, false, 0, (some 0)⟩) ((zStep E (cy Y) ⟨.store 29 (.v 5) (.v 0), .none, none, false, 1, none⟩) k))
 (zReg fun k => (zV 2 (vMv (.v 1))) k)), fun cy Y fuel =>
 (zBlock 1 (zSeq (zSeq (zReg fun k => (zP (vInt E fEql .eql 32 false true (.v 2) (.k .nilIface))) k)
 (zCond (.l 0) (zReg fun k => (zL 2 true (.v 3)) ((zL 5 true (.v 4)) ((zL 5 true (.v 5)) ((zCall (cy Y) 80 [(.l 2), (.l 1), (.l 0)] .push) ((zP (vExtract 0 (.l 0))) ((zP (vExtract 1 (.l 1))) ((zStep E (cy Y) ⟨.store 29 (.v 4) (.l 1), .none, none, false, 7, none⟩) ((zV 2 (vMv (.l 0))) k)))))))) zSkip))
 (zSeq (zReg fun k => (zP (vInt E fNeq .neq 32 false true (.v 2) (.k .nilIface))) k)
 (zCond (.l 0) (zSeq (zReg fun k => (zStep E (cy Y) ⟨.build 29 [], .push, none, false, 0, none⟩) ((zStep E (cy Y) ⟨.store 29 (.v 6) (.l 0), .none, none, false, 2, none⟩) ((zStep E (cy Y) ⟨.store 32 (.v 7) (.v 2), .none, none, false, 3, none⟩) k)))
 zRet) zSkip))))⟩
theorem M0_ok (fn : Nat → Option Func) (pu : Nat → Bool) (pr : Nat → List AV → Option (Heap → Option (Eff × Acc))) : ZLOk ⟨Tryz.tyT, fn, pu, pr⟩ npT L0 (M0 ⟨Tryz.tyT, fn, pu, pr⟩) := ⟨rfl, fun cy Y k => by kernel_rfl, fun cy Y k => by kernel_rfl⟩
noncomputable def L1 : LFn := ⟨31, [19, 20, 5, 6, 2], [(some 0), (some 1)], cC LV [19, 20, 5, 6, 2] 31 (codeAt [1, 1, 0, 1, 0, 0] (bodyOf Tryz.f91)) 0, cC LV [19, 20, 5, 6, 2] 31 (codeAt [1, 1, 0, 1, 0, 1] (bodyOf Tryz.f91)) 0⟩
noncomputable def M1 (E : Env) : ZLn := ⟨31, [19, 20, 5, 6, 2], [(some 0), (some 1)], fun cy Y fuel =>
 (zSeq (zReg fun k => (zV 2 (vMv (.v 0))) k)
 (zReg fun k => (zV 3 (vMv (.v 1))) k)), fun cy Y fuel =>
 (zBlock 3 (zSeq (zReg fun k => (zCall (cy Y) 116 [(.v 2), (.v 3)] .push) ((zP (vInt E (fGen .geq) .geq 3 false true (.l 0) (.k (.int .i64 0)))) ((zG (.l 0) false .push (zP (vMv (.v 2)))) ((zG (.l 1) false .push (zP (vMv (.v 3)))) ((zG (.l 2) false .push (zCall (cy Y) 117 [(.l 1), (.l 0)] .push)) ((zG (.l 3) false .push (zP (vInt E fNeq .neq 3 false true (.l 0) (.k (.int .i64 2))))) ((zP (vPick (.l 4) (.k (.bool true)) (.l 0))) k)))))))
 (zCond (.l 0) (zSeq (zReg fun k => (zStep E (cy Y) ⟨.store 4 (.v 4) (.k (.bool false)), .none, none, false, 0, none⟩) k)
 zRet) zSkip)))⟩
theorem M1_ok (fn : Nat → Option Func) (pu : Nat → Bool) (pr : Nat → List AV → Option (Heap → Option (Eff × Acc))) : ZLOk ⟨Tryz.tyT, fn, pu, pr⟩ npT L1 (M1 ⟨Tryz.tyT, fn, pu, pr⟩) := ⟨rfl, fun cy Y k => by kernel_rfl, fun cy Y k => by kernel_rfl⟩
noncomputable def L2 : LFn := ⟨12, [7, 8, 3, 4, 2], [(some 0), (some 1)], cC LV [7, 8, 3, 4, 2] 12 (codeAt [1, 0, 1, 0, 0] (bodyOf Tryz.f112)) 0, cC LV [7, 8, 3, 4, 2] 12 (codeAt [1, 0, 1, 0, 1] (bodyOf Tryz.f112)) 0⟩
noncomputable def M2 (E : Env) : ZLn := ⟨12, [7, 8, 3, 4, 2], [(some 0), (some 1)], fun cy Y fuel =>
 (zSeq (zReg fun k => (zV 2 (vMv (.v 0))) k)
 (zReg fun k => (zV 3 (vMv (.v 1))) k)), fun cy Y fuel =>
 (zBlock 1 (zSeq (zReg fun k => (zP (vInt E (fGen .geq) .geq 9 false false (.v 2) (.v 3))) k)
 (zCond (.l 0) (zSeq (zReg fun k => (zStep E (cy Y) ⟨.store 4 (.v 4) (.k (.bool false)), .none, none, false, 0, none⟩) k)
 zRet) zSkip)))⟩
theorem M2_ok (fn : Nat → Option Func) (pu : Nat → Bool) (pr : Nat → List AV → Option (Heap → Option (Eff × Acc))) : ZLOk ⟨Tryz.tyT, fn, pu, pr⟩ npT L2 (M2 ⟨Tryz.tyT, fn, pu, pr⟩) := ⟨rfl, fun cy Y k => by kernel_rfl, fun cy Y k => by kernel_rfl⟩
noncomputable def L3 : LFn := ⟨51, [23, 3, 9, 11, 6, 7, 8, 10], [(some 0)], cC LV [23, 3, 9, 11, 6, 7, 8, 10] 51 (codeAt [1, 1, 0, 1, 0, 0] (bodyOf Tryz.f128)) 0, cC LV [23, 3, 9, 11, 6, 7, 8, 10] 51 (codeAt [1, 1, 0, 1, 0, 1] (bodyOf Tryz.f128)) 0⟩
noncomputable def M3 (E : Env) : ZLn := ⟨51, [23, 3, 9, 11, 6, 7, 8, 10], [(some 0)], fun cy Y fuel =>
 (zReg fun k => (zStep E (cy Y) ⟨.alloc 163, (.var 2), none, false, 0, (some 0)⟩) ((zStep E (cy Y) ⟨.store 163 (.v 2) (.v 0), .none, none, false, 1, none⟩) k)), fun cy Y fuel =>
 (zBlock 1 (zSeq (zDreg 2 fun n0 k => (zPD (vFieldAddr 1 (.v 1))) ((zLD B43 1 1 false (.l 0)) ((zPD (vIndexAddr 2 (.l 0) (.k (.int .i64 0)))) ((zLD B43 3 2 true (.l 0)) ((zLD B43 4 3 true (.v 2)) ((zCallD (cy Y) B43 5 144 [(.l 1), (.l 0)] .push) ((zPD (vExtract 0 (.l 0))) ((zPD (vExtract 1 (.l 1))) ((zStepD E (cy Y) B43 n0 ⟨.alloc 29, (.var 7), none, false, 9, (some 1)⟩) ((zStepD E (cy Y) B43 n0 ⟨.store 29 (.v 7) (.l 1), .none, none, false, 10, none⟩) ((zVD 3 (vMv (.l 0))) k)))))))))))
 (zSeq (zSeq (zReg fun k => (zP (vInt E fNeq .neq 32 false true (.v 3) (.k .nilIface))) k)
 (zCond (.l 0) (zSeq (zReg fun k => (zStep E (cy Y) ⟨.build 29 [], .push, none, false, 0, none⟩) ((zStep E (cy Y) ⟨.store 29 (.v 4) (.l 0), .none, none, false, 2, none⟩) ((zStep E (cy Y) ⟨.store 32 (.v 5) (.v 3), .none, none, false, 3, none⟩) k)))
 zRet) zSkip))
 (zDreg 4 fun n0 k => (zPD (vFieldAddr 2 (.v 6))) ((zLD B44 1 1 false (.l 0)) ((zPD (vFieldAddr 0 (.v 2))) ((zLD B44 3 1 false (.l 0)) ((zStepD E (cy Y) B44 n0 ⟨.buildSlice 25 1 [(0, (.l 0))], .push, none, false, 4, (some 0)⟩) ((zStepD E (cy Y) B44 n0 ⟨.append 25 25 (.l 3) (.l 0), .push, none, false, 5, (some 1)⟩) ((zPD (vFieldAddr 4 (.v 6))) ((zLD B44 7 1 false (.l 0)) ((zLD B44 8 5 true (.v 7)) ((zStepD E (cy Y) B44 n0 ⟨.buildSlice 27 1 [(0, (.l 0))], .push, none, false, 9, (some 2)⟩) ((zStepD E (cy Y) B44 n0 ⟨.append 27 27 (.l 2) (.l 0), .push, none, false, 10, (some 3)⟩) ((zPD (vFieldAddr 2 (.v 6))) ((zStepD E (cy Y) B44 n0 ⟨.store 25 (.l 0) (.l 6), .none, none, false, 12, none⟩) ((zPD (vFieldAddr 4 (.v 6))) ((zStepD E (cy Y) B44 n0 ⟨.store 27 (.l 0) (.l 2), .none, none, false, 14, none⟩) k))))))))))))))))))⟩
theorem M3_ok (fn : Nat → Option Func) (pu : Nat → Bool) (pr : Nat → List AV → Option (Heap → Option (Eff × Acc))) : ZLOk ⟨Tryz.tyT, fn, pu, pr⟩ npT L3 (M3 ⟨Tryz.tyT, fn, pu, pr⟩) := ⟨rfl, fun cy Y k => by kernel_rfl, fun cy Y k => by kernel_rfl⟩
noncomputable def L4 : LFn := ⟨13, [7, 2, 5], [(some 0)], cC LV [7, 2, 5] 13 (codeAt [1, 0, 1, 0, 0] (bodyOf Tryz.f159)) 0, cC LV [7, 2, 5] 13 (codeAt [1, 0, 1, 0, 1] (bodyOf Tryz.f159)) 0⟩
noncomputable def M4 (E : Env) : ZLn := ⟨13, [7, 2, 5], [(some 0)], fun cy Y fuel =>
 (zReg fun k => (zStep E (cy Y) ⟨.alloc 168, (.var 2), none, false, 0, (some 0)⟩) ((zStep E (cy Y) ⟨.store 168 (.v 2) (.v 0), .none, none, false, 1, none⟩) k)), fun cy Y fuel =>
 (zBlock 1 (zReg fun k => (zL 1 false (.v 1)) ((zL 3 true (.v 2)) ((zStep E (cy Y) ⟨.buildSlice 165 1 [(0, (.l 0))], .push, none, false, 2, (some 0)⟩) ((zStep E (cy Y) ⟨.append 165 165 (.l 2) (.l 0), .push, none, false, 3, (some 1)⟩) ((zStep E (cy Y) ⟨.store 165 (.v 1) (.l 0), .none, none, false, 4, none⟩) k))))))⟩
theorem M4_ok (fn : Nat → Option Func) (pu : Nat → Bool) (pr : Nat → List AV → Option (Heap → Option (Eff × Acc))) : ZLOk ⟨Tryz.tyT, fn, pu, pr⟩ npT L4 (M4 ⟨Tryz.tyT, fn, pu, pr⟩) := ⟨rfl, fun cy Y k => by kernel_rfl, fun cy Y k => by kernel_rfl⟩
noncomputable def F3 : FFn := cF LV 0 [0, 7, 1, 5, 9, 8, 6, 13, 12, 11, 10, 4] Tryz.f3
noncomputable def xbody3a (E : Env) (call : CallTT) : CZ := (zSeq (zSeq (zReg fun k => (zP (vLenL (.v 0))) ((zP (vInt E fLss .lss 3 false false (.v 1) (.l 0))) k))
 (zCond (.l 0) zSkip (zExit 0)))
 (zSeq (zBlock 1 (zSeq (zReg fun k => (zV 5 (vMv (.k (.int .u64 0)))) k)
 (zSeq (zSeq (zReg fun k => (zP (vLenL (.v 2))) ((zP (vInt E fLss .lss 3 false false (.v 1) (.l 0))) k))
 (zCond (.l 0) (zReg fun k => (zP (vIndexAddr 1 (.v 2) (.v 1))) ((zL 1 false (.l 0)) ((zP (vInt E (fGen .rem) .rem 5 false true (.l 0) (.k (.int .u8 5)))) ((zP (vConv .u64 (.l 0))) ((zV 5 (vMv (.l 0))) k))))) zSkip))
 (zSeq (zReg fun k => (zP (vIndexAddr 1 (.v 0) (.v 1))) ((zL 1 false (.l 0)) ((zP (vInt E (fGen .rem) .rem 5 false true (.l 0) (.k (.int .u8 8)))) ((zV 4 (vMv (.l 0))) k))))
 (zSeq (zDreg 5 fun n0 k => (zPD (vFieldAddr 2 (.v 3))) ((zLD B0 1 1 false (.l 0)) ((zPD (vInt E fAdd .add 5 true false (.k (.int .u8 97)) (.v 4))) ((zStepD E call B0 n0 ⟨.buildSlice 22 1 [(0, (.l 0))], .push, none, false, 4, (some 0)⟩) ((zStepD E call B0 n0 ⟨.conv 22 9 (.l 0), .push, none, false, 5, none⟩) ((zStepD E call B0 n0 ⟨.buildSlice 25 1 [(0, (.l 0))], .push, none, false, 6, (some 1)⟩) ((zStepD E call B0 n0 ⟨.append 25 25 (.l 4) (.l 0), .push, none, false, 7, (some 2)⟩) ((zPD (vFieldAddr 4 (.v 3))) ((zLD B0 9 1 false (.l 0)) ((zStepD E call B0 n0 ⟨.build 29 [(0, (.v 5))], .push, none, false, 11, none⟩) ((zStepD E call B0 n0 ⟨.buildSlice 27 1 [(0, (.l 0))], .push, none, false, 12, (some 3)⟩) ((zStepD E call B0 n0 ⟨.append 27 27 (.l 2) (.l 0), .push, none, false, 13, (some 4)⟩) ((zPD (vFieldAddr 2 (.v 3))) ((zStepD E call B0 n0 ⟨.store 25 (.l 0) (.l 6), .none, none, false, 15, none⟩) ((zPD (vFieldAddr 4 (.v 3))) ((zStepD E call B0 n0 ⟨.store 27 (.l 0) (.l 2), .none, none, false, 17, none⟩) k))))))))))))))))
 (zReg fun k => (zStep E call ⟨.indexAddr 30 (.v 6) (.v 4), .push, none, true, 2, none⟩) ((zL 1 false (.l 0)) ((zStep E call ⟨.most true [(.l 0), (.v 5)], .push, none, false, 5, none⟩) ((zStep E call ⟨.indexAddr 30 (.v 6) (.v 4), .push, none, true, 6, none⟩) ((zStep E call ⟨.store 24 (.l 0) (.l 1), .none, none, false, 7, none⟩) k))))))))))
 (zReg fun k => (zP (vMv (.v 1))) ((zP (vInt E fAdd .add 3 false true (.l 0) (.k (.int .i64 1)))) ((zV 1 (vMv (.l 0))) k)))))
noncomputable def xbody3b (E : Env) (call : CallTT) : CZ := (zSeq (zSeq (zReg fun k => (zP (vInt E fLss .lss 3 false true (.v 7) (.k (.int .i64 8)))) k)
 (zCond (.l 0) zSkip (zExit 2)))
 (zSeq (zBlock 3 (zSeq (zReg fun k => (zStep E call ⟨.indexAddr 30 (.v 6) (.v 7), .push, none, true, 1, none⟩) ((zL 1 false (.l 0)) ((zP (vInt E fGtr .gtr 24 false true (.l 0) (.k (.int .u64 0)))) k)))
 (zCond (.l 0) (zDreg 5 fun n0 k => (zPD (vFieldAddr 2 (.v 8))) ((zLD B2 1 1 false (.l 0)) ((zPD (vInt E fAdd .add 3 true false (.k (.int .i64 97)) (.v 7))) ((zPD (vConv .u8 (.l 0))) ((zStepD E call B2 n0 ⟨.buildSlice 22 1 [(0, (.l 0))], .push, none, false, 5, (some 0)⟩) ((zStepD E call B2 n0 ⟨.conv 22 9 (.l 0), .push, none, false, 6, none⟩) ((zStepD E call B2 n0 ⟨.buildSlice 25 1 [(0, (.l 0))], .push, none, false, 7, (some 1)⟩) ((zStepD E call B2 n0 ⟨.append 25 25 (.l 5) (.l 0), .push, none, false, 8, (some 2)⟩) ((zPD (vFieldAddr 4 (.v 8))) ((zLD B2 10 1 false (.l 0)) ((zStepD E call B2 n0 ⟨.indexAddr 30 (.v 6) (.v 7), .push, none, true, 12, none⟩) ((zLD B2 13 1 false (.l 0)) ((zStepD E call B2 n0 ⟨.build 29 [(0, (.l 0))], .push, none, false, 14, none⟩) ((zStepD E call B2 n0 ⟨.buildSlice 27 1 [(0, (.l 0))], .push, none, false, 15, (some 3)⟩) ((zStepD E call B2 n0 ⟨.append 27 27 (.l 4) (.l 0), .push, none, false, 16, (some 4)⟩) ((zPD (vFieldAddr 2 (.v 8))) ((zStepD E call B2 n0 ⟨.store 25 (.l 0) (.l 8), .none, none, false, 18, none⟩) ((zPD (vFieldAddr 4 (.v 8))) ((zStepD E call B2 n0 ⟨.store 27 (.l 0) (.l 2), .none, none, false, 20, none⟩) k))))))))))))))))))) zSkip)))
 (zReg fun k => (zP (vMv (.v 7))) ((zP (vInt E fAdd .add 3 false true (.l 0) (.k (.int .i64 1)))) ((zV 7 (vMv (.l 0))) k)))))
noncomputable def G3 (E : Env) : ZFn := ⟨107, [0, 7, 1, 5, 9, 8, 6, 13, 12, 11, 10, 4], fun cy Y fuel =>
 (zSeq (zReg fun k => (zV 11 (vMv (.k (.bool false)))) k)
 (zSeq (zSeq (zReg fun k => (zCall (cy Y) 5 [] .push) ((zP (vNot (.l 0))) k))
 (zCond (.l 0) (zSeq (zReg fun k => (zV 11 (vMv (.k (.bool false)))) k)
 zRet) zSkip))
 (zSeq (zSeq (zReg fun k => (zP (vLenL (.v 0))) ((zP (vInt E fGtr .gtr 3 false true (.l 0) (.k (.int .i64 30)))) k))
 (zCond (.l 0) (zSeq (zReg fun k => (zV 11 (vMv (.k (.bool true)))) k)
 zRet) zSkip))
 (zSeq (zReg fun k => (zStep E (cy Y) ⟨.build 29 [], .push, none, false, 0, none⟩) ((zStep E (cy Y) ⟨.alloc 29, (.var 3), none, false, 1, (some 0)⟩) ((zStep E (cy Y) ⟨.store 29 (.v 3) (.l 0), .none, none, false, 2, none⟩) k)))
 (zSeq (zReg fun k => (zStep E (cy Y) ⟨.alloc 30, (.var 6), none, false, 0, (some 0)⟩) k)
 (zSeq (zSeq (zReg fun k => (zV 1 (vMv (.k (.int .i64 0)))) k)
 (zBlock 0 (zLoop fuel (xbody3a E (cy Y)))))
 (zSeq (zDreg 5 fun n0 k => (zCallD (cy Y) B1 0 7 [(.k (.int .i64 1)), (.k (.sl 0 [] true))] .push) ((zStepD E (cy Y) B1 n0 ⟨.buildSlice 35 1 [(0, (.l 0))], .push, none, false, 1, (some 1)⟩) ((zCallD (cy Y) B1 2 7 [(.k (.int .i64 4)), (.l 0)] .push) ((zLD B1 3 5 true (.v 3)) ((zCallD (cy Y) B1 4 6 [(.l 1), (.l 0)] .push) ((zPD (vExtract 0 (.l 0))) ((zPD (vExtract 1 (.l 1))) ((zStepD E (cy Y) B1 n0 ⟨.alloc 29, (.var 10), none, false, 8, (some 4)⟩) ((zStepD E (cy Y) B1 n0 ⟨.store 29 (.v 10) (.l 1), .none, none, false, 9, none⟩) ((zVD 9 (vMv (.l 0))) k))))))))))
 (zSeq (zReg fun k => (zStep E (cy Y) ⟨.build 29 [], .push, none, false, 0, none⟩) ((zStep E (cy Y) ⟨.alloc 29, (.var 8), none, false, 1, (some 0)⟩) ((zStep E (cy Y) ⟨.store 29 (.v 8) (.l 0), .none, none, false, 2, none⟩) k)))
 (zSeq (zSeq (zReg fun k => (zV 7 (vMv (.k (.int .i64 0)))) k)
 (zBlock 2 (zLoop fuel (xbody3b E (cy Y)))))
 (zSeq (zReg fun k => (zP (vInt E fEql .eql 32 false true (.v 9) (.k .nilIface))) ((zG (.l 0) true .push (zL 5 true (.v 10))) ((zG (.l 1) true .push (zL 5 true (.v 8))) ((zG (.l 2) true .push (zCall (cy Y) 8 [(.l 1), (.l 0)] .push)) ((zP (vPick (.l 3) (.l 0) (.k (.bool false)))) ((zV 11 (vMv (.l 0))) k))))))
 zRet)))))))))), [.tmp (.v 11)]⟩
theorem G3_ok (fn : Nat → Option Func) (pu : Nat → Bool) (pr : Nat → List AV → Option (Heap → Option (Eff × Acc))) : ZOk ⟨Tryz.tyT, fn, pu, pr⟩ npT F3 (G3 ⟨Tryz.tyT, fn, pu, pr⟩) := ⟨by kernel_rfl, by kernel_rfl, by kernel_rfl, fun cy Y k => by kernel_rfl⟩
noncomputable def F4 : FFn := cF LV 0 [0, 5, 3, 6, 7, 4, 11, 10, 8, 9, 2] Tryz.f4
noncomputable def G4 (E : Env) : ZFn := ⟨141, [0, 5, 3, 6, 7, 4, 11, 10, 8, 9, 2], fun cy Y fuel =>
 (zSeq (zReg fun k => (zV 10 (vMv (.k (.bool false)))) k)
 (zSeq (zSeq (zReg fun k => (zCall (cy Y) 5 [] .push) ((zP (vNot (.l 0))) k))
 (zCond (.l 0) (zSeq (zReg fun k => (zV 10 (vMv (.k (.bool false)))) k)
 zRet) zSkip))
 (zSeq (zSeq (zReg fun k => (zP (vLenL (.v 0))) ((zP (vInt E fGtr .gtr 3 false true (.l 0) (.k (.int .i64 30)))) k))
 (zCond (.l 0) (zSeq (zReg fun k => (zV 10 (vMv (.k (.bool true)))) k)
 zRet) zSkip))
 (zSeq (zReg fun k => (zStep E (cy Y) ⟨.build 29 [], .push, none, false, 0, none⟩) ((zStep E (cy Y) ⟨.alloc 29, (.var 2), none, false, 1, (some 0)⟩) ((zStep E (cy Y) ⟨.store 29 (.v 2) (.l 0), .none, none, false, 2, none⟩) k)))
 (zSeq (zReg fun k => (zStep E (cy Y) ⟨.alloc 41, (.var 5), none, false, 0, (some 0)⟩) k)
 (zSeq (zSeq (zReg fun k => (zV 1 (vMv (.k (.int .i64 0)))) k)
 (zBlock 0 (zLoop fuel (zSeq (zSeq (zReg fun k => (zP (vLenL (.v 0))) ((zP (vInt E fLss .lss 3 false false (.v 1) (.l 0))) k))
 (zCond (.l 0) zSkip (zExit 0)))
 (zSeq (zBlock 1 (zSeq (zDreg 0 fun n0 k => (zPD (vIndexAddr 1 (.v 0) (.v 1))) ((zLD B3 3 1 false (.l 0)) ((zPD (vInt E (fGen .rem) .rem 5 false true (.l 0) (.k (.int .u8 4)))) ((zPD (vConv .i64 (.l 0))) ((zPD (vIndexAddr 1 (.v 0) (.v 1))) ((zLD B3 9 1 false (.l 0)) ((zPD (vInt E (fGen .quo) .quo 5 false true (.l 0) (.k (.int .u8 4)))) ((zPD (vInt E (fGen .rem) .rem 5 false true (.l 0) (.k (.int .u8 5)))) ((zPD (vConv .u64 (.l 0))) ((zPD (vInt E fAdd .add 24 false true (.l 0) (.k (.int .u64 1)))) ((zVD 3 (vMv (.l 6))) ((zVD 4 (vMv (.l 0))) k))))))))))))
 (zSeq (zDreg 5 fun n0 k => (zPD (vFieldAddr 3 (.v 2))) ((zLD B4 1 1 false (.l 0)) ((zStepD E (cy Y) B4 n0 ⟨.build 43 [(0, (.k (.int .i64 9)))], .push, none, false, 2, none⟩) ((zStepD E (cy Y) B4 n0 ⟨.build 43 [(0, (.v 3)), (1, (.v 4))], .push, none, false, 5, none⟩) ((zStepD E (cy Y) B4 n0 ⟨.buildSlice 44 2 [(0, (.l 1)), (1, (.l 0))], .push, none, false, 6, (some 0)⟩) ((zStepD E (cy Y) B4 n0 ⟨.buildSlice 26 1 [(0, (.l 0))], .push, none, false, 7, (some 1)⟩) ((zStepD E (cy Y) B4 n0 ⟨.append 26 26 (.l 4) (.l 0), .push, none, false, 8, (some 2)⟩) ((zPD (vFieldAddr 4 (.v 2))) ((zLD B4 10 1 false (.l 0)) ((zPD (vIndexAddr 1 (.v 0) (.v 1))) ((zLD B4 14 1 false (.l 0)) ((zPD (vConv .u64 (.l 0))) ((zPD (vInt E (fGen .quo) .quo 24 false true (.l 0) (.k (.int .u64 64)))) ((zStepD E (cy Y) B4 n0 ⟨.build 29 [(0, (.l 0))], .push, none, false, 17, none⟩) ((zStepD E (cy Y) B4 n0 ⟨.buildSlice 27 1 [(0, (.l 0))], .push, none, false, 18, (some 3)⟩) ((zStepD E (cy Y) B4 n0 ⟨.append 27 27 (.l 6) (.l 0), .push, none, false, 19, (some 4)⟩) ((zPD (vFieldAddr 3 (.v 2))) ((zStepD E (cy Y) B4 n0 ⟨.store 26 (.l 0) (.l 10), .none, none, false, 21, none⟩) ((zPD (vFieldAddr 4 (.v 2))) ((zStepD E (cy Y) B4 n0 ⟨.store 27 (.l 0) (.l 2), .none, none, false, 23, none⟩) k))))))))))))))))))))
 (zReg fun k => (zStep E (cy Y) ⟨.indexAddr 41 (.v 5) (.v 3), .push, none, true, 2, none⟩) ((zL 1 false (.l 0)) ((zStep E (cy Y) ⟨.most true [(.l 0), (.v 4)], .push, none, false, 5, none⟩) ((zStep E (cy Y) ⟨.indexAddr 41 (.v 5) (.v 3), .push, none, true, 6, none⟩) ((zStep E (cy Y) ⟨.store 24 (.l 0) (.l 1), .none, none, false, 7, none⟩) k))))))))
 (zReg fun k => (zP (vMv (.v 1))) ((zP (vInt E fAdd .add 3 false true (.l 0) (.k (.int .i64 1)))) ((zV 1 (vMv (.l 0))) k))))))))
 (zSeq (zDreg 5 fun n0 k => (zCallD (cy Y) B1 0 7 [(.k (.int .i64 1)), (.k (.sl 0 [] true))] .push) ((zStepD E (cy Y) B1 n0 ⟨.buildSlice 35 1 [(0, (.l 0))], .push, none, false, 1, (some 1)⟩) ((zCallD (cy Y) B1 2 7 [(.k (.int .i64 8)), (.l 0)] .push) ((zLD B1 3 5 true (.v 2)) ((zCallD (cy Y) B1 4 6 [(.l 1), (.l 0)] .push) ((zPD (vExtract 0 (.l 0))) ((zPD (vExtract 1 (.l 1))) ((zStepD E (cy Y) B1 n0 ⟨.alloc 29, (.var 8), none, false, 8, (some 4)⟩) ((zStepD E (cy Y) B1 n0 ⟨.store 29 (.v 8) (.l 1), .none, none, false, 9, none⟩) ((zVD 9 (vMv (.l 0))) k))))))))))
 (zSeq (zReg fun k => (zV 7 (vMv (.k (.int .i64 0)))) k)
 (zSeq (zSeq (zReg fun k => (zV 6 (vMv (.k (.int .i64 0)))) k)
 (zBlock 2 (zLoop fuel (zSeq (zSeq (zReg fun k => (zP (vInt E fLss .lss 3 false true (.v 6) (.k (.int .i64 4)))) k)
 (zCond (.l 0) zSkip (zExit 2)))
 (zSeq (zBlock 3 (zSeq (zReg fun k => (zStep E (cy Y) ⟨.indexAddr 41 (.v 5) (.v 6), .push, none, true, 1, none⟩) ((zL 1 false (.l 0)) ((zP (vInt E fGtr .gtr 24 false true (.l 0) (.k (.int .u64 0)))) k)))
 (zCond (.l 0) (zSeq (zSeq (zDreg 0 fun n0 k => (zPD (vFieldAddr 3 (.v 8))) ((zLD B5 2 1 false (.l 0)) ((zPD (vLenL (.l 0))) ((zPD (vInt E (fGen .geq) .geq 3 false false (.v 7) (.l 0))) ((zGD (.l 0) false .push (zPD (vFieldAddr 3 (.v 8)))) ((zGD (.l 1) false .push (zLD B5 7 1 false (.l 0))) ((zGD (.l 2) false .push (zPD (vMv (.v 7)))) ((zGD (.l 3) false .push (zPD (vIndexAddr 1 (.l 1) (.l 0)))) ((zGD (.l 4) false .push (zLD B5 10 1 false (.l 0))) ((zGD (.l 5) false .push (zPD (vLenL (.l 0)))) ((zGD (.l 6) false .push (zPD (vInt E fNeq .neq 3 false true (.l 0) (.k (.int .i64 1))))) ((zPD (vPick (.l 7) (.k (.bool true)) (.l 0))) ((zGD (.l 0) false .push (zPD (vFieldAddr 3 (.v 8)))) ((zGD (.l 1) false .push (zLD B5 16 1 false (.l 0))) ((zGD (.l 2) false .push (zPD (vMv (.v 7)))) ((zGD (.l 3) false .push (zPD (vIndexAddr 1 (.l 1) (.l 0)))) ((zGD (.l 4) false .push (zLD B5 19 1 false (.l 0))) ((zGD (.l 5) false .push (zPD (vIndexAddr 2 (.l 0) (.k (.int .i64 0))))) ((zGD (.l 6) false .push (zPD (vFieldAddr 0 (.l 0)))) ((zGD (.l 7) false .push (zLD B5 22 1 false (.l 0))) ((zGD (.l 8) false .push (zPD (vMv (.v 6)))) ((zGD (.l 9) false .push (zPD (vInt E fNeq .neq 3 false false (.l 1) (.l 0)))) ((zPD (vPick (.l 10) (.k (.bool true)) (.l 0))) ((zGD (.l 0) false .push (zPD (vFieldAddr 3 (.v 8)))) ((zGD (.l 1) false .push (zLD B5 28 1 false (.l 0))) ((zGD (.l 2) false .push (zPD (vMv (.v 7)))) ((zGD (.l 3) false .push (zPD (vIndexAddr 1 (.l 1) (.l 0)))) ((zGD (.l 4) false .push (zLD B5 31 1 false (.l 0))) ((zGD (.l 5) false .push (zPD (vIndexAddr 2 (.l 0) (.k (.int .i64 0))))) ((zGD (.l 6) false .push (zPD (vFieldAddr 1 (.l 0)))) ((zGD (.l 7) false .push (zLD B5 34 1 false (.l 0))) ((zGD (.l 8) false .push (zPD (vMv (.v 6)))) ((zGD (.l 9) false .push (zStepD E (cy Y) B5 n0 ⟨.indexAddr 41 (.v 5) (.l 0), .push, none, true, 36, none⟩)) ((zGD (.l 10) false .push (zLD B5 37 1 false (.l 0))) ((zGD (.l 11) false .push (zPD (vInt E fNeq .neq 24 false false (.l 3) (.l 0)))) ((zPD (vPick (.l 12) (.k (.bool true)) (.l 0))) k))))))))))))))))))))))))))))))))))))
 (zCond (.l 0) (zSeq (zReg fun k => (zV 10 (vMv (.k (.bool false)))) k)
 zRet) zSkip))
 (zReg fun k => (zP (vMv (.v 7))) ((zP (vInt E fAdd .add 3 false true (.l 0) (.k (.int .i64 1)))) ((zV 7 (vMv (.l 0))) k)))) zSkip)))
 (zReg fun k => (zP (vMv (.v 6))) ((zP (vInt E fAdd .add 3 false true (.l 0) (.k (.int .i64 1)))) ((zV 6 (vMv (.l 0))) k))))))))
 (zSeq (zDreg 4 fun n0 k => (zPD (vInt E fEql .eql 32 false true (.v 9) (.k .nilIface))) ((zGD (.l 0) true .push (zPD (vFieldAddr 3 (.v 8)))) ((zGD (.l 1) true .push (zLD B6 4 1 false (.l 0))) ((zGD (.l 2) true .push (zPD (vLenL (.l 0)))) ((zGD (.l 3) true .push (zPD (vMv (.v 7)))) ((zGD (.l 4) true .push (zPD (vInt E fEql .eql 3 false false (.l 1) (.l 0)))) ((zPD (vPick (.l 5) (.l 0) (.k (.bool false)))) ((zGD (.l 0) true .push (zCallD (cy Y) B6 10 7 [(.k (.int .i64 1)), (.k (.sl 0 [] true))] .push)) ((zGD (.l 1) true .push (zStepD E (cy Y) B6 n0 ⟨.buildSlice 35 1 [(0, (.l 0))], .push, none, false, 11, (some 1)⟩)) ((zGD (.l 2) true .push (zCallD (cy Y) B6 12 7 [(.k (.int .i64 8)), (.l 0)] .push)) ((zGD (.l 3) true .push (zLD B6 13 5 true (.v 8))) ((zGD (.l 4) true .push (zCallD (cy Y) B6 14 9 [(.l 1), (.l 0)] .push)) ((zPD (vPick (.l 5) (.l 0) (.k (.bool false)))) ((zVD 10 (vMv (.l 0))) k))))))))))))))
 zRet)))))))))), [.tmp (.v 10)]⟩
theorem G4_ok (fn : Nat → Option Func) (pu : Nat → Bool) (pr : Nat → List AV → Option (Heap → Option (Eff × Acc))) : ZOk ⟨Tryz.tyT, fn, pu, pr⟩ npT F4 (G4 ⟨Tryz.tyT, fn, pu, pr⟩) := ⟨by kernel_rfl, by kernel_rfl, by kernel_rfl, fun cy Y k => by kernel_rfl⟩
noncomputable def F5 : FFn := cF LV 0 [1, 3, 2, 5, 7, 6, 9, 0] Tryz.f5
noncomputable def G5 (E : Env) : ZFn := ⟨72, [1, 3, 2, 5, 7, 6, 9, 0], fun cy Y fuel =>
 (zSeq (zReg fun k => (zV 7 (vMv (.k (.bool false)))) k)
 (zSeq (zReg fun k => (zStep E (cy Y) ⟨.build 37 [(0, (.k (.int .i64 3)))], .push, none, false, 0, none⟩) ((zStep E (cy Y) ⟨.alloc 37, (.var 0), none, false, 1, (some 0)⟩) ((zStep E (cy Y) ⟨.store 37 (.v 0) (.l 0), .none, none, false, 2, none⟩) k)))
 (zSeq (zReg fun k => (zL 2 true (.v 0)) ((zStep E (cy Y) ⟨.buildSlice 25 3 [(0, (.k (.str [98]))), (1, (.k (.str [97]))), (2, (.k (.str [98])))], .push, none, false, 1, (some 0)⟩) ((zStep E (cy Y) ⟨.build 29 [(2, (.l 0))], .push, none, false, 2, none⟩) ((zCall (cy Y) 6 [(.l 2), (.l 0)] .push) ((zP (vExtract 0 (.l 0))) ((zP (vExtract 1 (.l 1))) ((zStep E (cy Y) ⟨.alloc 29, (.var 2), none, false, 7, (some 2)⟩) ((zStep E (cy Y) ⟨.store 29 (.v 2) (.l 1), .none, none, false, 8, none⟩) ((zV 1 (vMv (.l 0))) k)))))))))
 (zSeq (zReg fun k => (zL 2 true (.v 0)) ((zStep E (cy Y) ⟨.build 29 [(0, (.k (.int .u64 1)))], .push, none, false, 1, none⟩) ((zCall (cy Y) 6 [(.l 1), (.l 0)] .push) ((zP (vExtract 0 (.l 0))) ((zP (vExtract 1 (.l 1))) ((zStep E (cy Y) ⟨.alloc 29, .push, none, false, 6, (some 1)⟩) ((zStep E (cy Y) ⟨.store 29 (.l 0) (.l 2), .none, none, false, 7, none⟩) ((zV 3 (vMv (.l 1))) k))))))))
 (zSeq (zReg fun k => (zStep E (cy Y) ⟨.build 43 [(0, (.k (.int .i64 2))), (1, (.k (.int .u64 1)))], .push, none, false, 0, none⟩) ((zStep E (cy Y) ⟨.build 43 [(0, (.k (.int .i64 1)))], .push, none, false, 1, none⟩) ((zStep E (cy Y) ⟨.build 43 [(0, (.k (.int .i64 2))), (1, (.k (.int .u64 4)))], .push, none, false, 2, none⟩) ((zStep E (cy Y) ⟨.buildSlice 44 3 [(0, (.l 2)), (1, (.l 1)), (2, (.l 0))], .push, none, false, 3, (some 0)⟩) ((zCall (cy Y) 10 [(.l 0)] .push) ((zP (vExtract 0 (.l 0))) ((zP (vExtract 1 (.l 1))) ((zV 5 (vMv (.l 1))) ((zV 4 (vMv (.l 0))) k)))))))))
 (zSeq (zReg fun k => (zStep E (cy Y) ⟨.build 43 [(0, (.k (.int .i64 (-1)))), (1, (.k (.int .u64 1)))], .push, none, false, 0, none⟩) ((zStep E (cy Y) ⟨.buildSlice 44 1 [(0, (.l 0))], .push, none, false, 1, (some 0)⟩) ((zCall (cy Y) 10 [(.l 0)] .push) ((zP (vExtract 0 (.l 0))) ((zP (vExtract 1 (.l 1))) ((zP (vMv (.l 1))) ((zV 6 (vMv (.l 1))) k)))))))
 (zSeq (zReg fun k => (zP (vInt E fEql .eql 32 false true (.v 1) (.k .nilIface))) ((zG (.l 0) true .push (zP (vFieldAddr 2 (.v 2)))) ((zG (.l 1) true .push (zL 1 false (.l 0))) ((zG (.l 2) true .push (zStep E (cy Y) ⟨.buildSlice 25 2 [(0, (.k (.str [97]))), (1, (.k (.str [98])))], .push, none, false, 5, (some 0)⟩)) ((zG (.l 3) true .push (zCall (cy Y) 11 [(.l 1), (.l 0)] .push)) ((zP (vPick (.l 4) (.l 0) (.k (.bool false)))) ((zG (.l 0) true .push (zP (vMv (.v 3)))) ((zG (.l 1) true .push (zStep E (cy Y) ⟨.mkIface 51 (.k (.int .i64 14)), .push, none, false, 10, none⟩)) ((zG (.l 2) true .push (zStep E (cy Y) ⟨.call 12 [(.l 1), (.l 0)], .push, none, false, 11, (some 2)⟩)) ((zP (vPick (.l 3) (.l 0) (.k (.bool false)))) ((zG (.l 0) true .push (zP (vMv (.v 4)))) ((zG (.l 1) true .push (zP (vInt E fEql .eql 32 false true (.l 0) (.k .nilIface)))) ((zP (vPick (.l 2) (.l 0) (.k (.bool false)))) ((zG (.l 0) true .push (zP (vMv (.v 5)))) ((zG (.l 1) true .push (zP (vLenL (.l 0)))) ((zG (.l 2) true .push (zP (vInt E fEql .eql 3 false true (.l 0) (.k (.int .i64 1))))) ((zP (vPick (.l 3) (.l 0) (.k (.bool false)))) ((zG (.l 0) true .push (zP (vMv (.v 5)))) ((zG (.l 1) true .push (zP (vIndexAddr 2 (.l 0) (.k (.int .i64 0))))) ((zG (.l 2) true .push (zL 2 true (.l 0))) ((zG (.l 3) true .push (zStep E (cy Y) ⟨.build 43 [(0, (.k (.int .i64 2))), (1, (.k (.int .u64 4)))], .push, none, false, 26, none⟩)) ((zG (.l 4) true .push (zP (vInt E fEql .eql 43 false false (.l 1) (.l 0)))) ((zP (vPick (.l 5) (.l 0) (.k (.bool false)))) ((zG (.l 0) true .push (zP (vMv (.v 6)))) ((zG (.l 1) true .push (zStep E (cy Y) ⟨.mkIface 51 (.k (.int .i64 14)), .push, none, false, 31, none⟩)) ((zG (.l 2) true .push (zStep E (cy Y) ⟨.call 12 [(.l 1), (.l 0)], .push, none, false, 32, (some 3)⟩)) ((zP (vPick (.l 3) (.l 0) (.k (.bool false)))) ((zV 7 (vMv (.l 0))) k))))))))))))))))))))))))))))
 zRet))))))), [.tmp (.v 7)]⟩
theorem G5_ok (fn : Nat → Option Func) (pu : Nat → Bool) (pr : Nat → List AV → Option (Heap → Option (Eff × Acc))) : ZOk ⟨Tryz.tyT, fn, pu, pr⟩ npT F5 (G5 ⟨Tryz.tyT, fn, pu, pr⟩) := ⟨by kernel_rfl, by kernel_rfl, by kernel_rfl, fun cy Y k => by kernel_rfl⟩
noncomputable def F6 : FFn := cF LV 0 [0, 1, 2, 3, 4, 5] Tryz.f6
noncomputable def G6 (E : Env) : ZFn := ⟨22, [0, 1, 2, 3, 4, 5], fun cy Y fuel =>
 (zSeq (zReg fun k => (zStep E (cy Y) ⟨.box 37 (.v 0), (.var 2), none, false, 0, (some 0)⟩) ((zStep E (cy Y) ⟨.box 29 (.v 1), (.var 3), none, false, 1, (some 1)⟩) ((zStep E (cy Y) ⟨.alloc 29, (.var 4), none, false, 2, (some 2)⟩) ((zV 5 (vMv (.k .nilIface))) k))))
 (zSeq (zSeq (zReg fun k => (zL 2 true (.v 2)) ((zCall (cy Y) 13 [(.l 0)] .push) ((zP (vNot (.l 0))) ((zG (.l 0) false .push (zL 2 true (.v 2))) ((zG (.l 1) false .push (zL 5 true (.v 3))) ((zG (.l 2) false .push (zCall (cy Y) 14 [(.l 1), (.l 0)] .push)) ((zG (.l 3) false .push (zP (vNot (.l 0)))) ((zP (vPick (.l 4) (.k (.bool true)) (.l 0))) k))))))))
 (zCond (.l 0) (zSeq (zReg fun k => (zStep E (cy Y) ⟨.build 29 [], .push, none, false, 0, none⟩) ((zStep E (cy Y) ⟨.mkIface 51 (.k (.int .i64 14)), .push, none, false, 1, none⟩) ((zStep E (cy Y) ⟨.store 29 (.v 4) (.l 1), .none, none, false, 2, none⟩) ((zV 5 (vMv (.l 0))) k))))
 zRet) zSkip))
 (zSeq (zReg fun k => (zL 2 true (.v 2)) ((zL 5 true (.v 3)) ((zCall (cy Y) 15 [(.l 1), (.l 0)] .push) ((zP (vExtract 0 (.l 0))) ((zP (vExtract 1 (.l 1))) ((zStep E (cy Y) ⟨.store 29 (.v 4) (.l 1), .none, none, false, 5, none⟩) ((zV 5 (vMv (.l 0))) k)))))))
 zRet))), [.cell (.v 4) 29, .tmp (.v 5)]⟩
theorem G6_ok (fn : Nat → Option Func) (pu : Nat → Bool) (pr : Nat → List AV → Option (Heap → Option (Eff × Acc))) : ZOk ⟨Tryz.tyT, fn, pu, pr⟩ npT F6 (G6 ⟨Tryz.tyT, fn, pu, pr⟩) := ⟨by kernel_rfl, by kernel_rfl, by kernel_rfl, fun cy Y k => by kernel_rfl⟩
noncomputable def F7 : FFn := cF LV 0 [0, 1, 4] Tryz.f7
noncomputable def G7 (E : Env) : ZFn := ⟨8, [0, 1, 4], fun cy Y fuel =>
 (zSeq (zReg fun k => (zStep E (cy Y) ⟨.alloc 37, (.var 2), none, false, 0, (some 0)⟩) k)
 (zSeq (zReg fun k => (zStep E (cy Y) ⟨.build 37 [(0, (.v 0)), (1, (.v 1))], .push, none, false, 2, none⟩) ((zStep E (cy Y) ⟨.store 37 (.v 2) (.l 0), .none, none, false, 3, none⟩) k))
 zRet)), [.cell (.v 2) 37]⟩
theorem G7_ok (fn : Nat → Option Func) (pu : Nat → Bool) (pr : Nat → List AV → Option (Heap → Option (Eff × Acc))) : ZOk ⟨Tryz.tyT, fn, pu, pr⟩ npT F7 (G7 ⟨Tryz.tyT, fn, pu, pr⟩) := ⟨by kernel_rfl, by kernel_rfl, by kernel_rfl, fun cy Y k => by kernel_rfl⟩
noncomputable def F8 : FFn := cF LV 0 [0, 1, 2, 3, 5, 6, 4] Tryz.f8
noncomputable def xbody8 (E : Env) (call : CallTT) : CZ := (zSeq (zSeq (zReg fun k => (zP (vFieldAddr 4 (.v 2))) ((zL 1 false (.l 0)) ((zP (vLenL (.l 0))) ((zP (vInt E fLss .lss 3 false false (.v 5) (.l 0))) k))))
 (zCond (.l 0) zSkip (zExit 2)))
 (zSeq (zBlock 3 (zSeq (zDreg 1 fun n0 k => (zPD (vFieldAddr 4 (.v 2))) ((zLD B7 1 1 false (.l 0)) ((zPD (vIndexAddr 5 (.l 0) (.v 5))) ((zLD B7 4 5 true (.l 0)) ((zPD (vFieldAddr 4 (.v 3))) ((zLD B7 6 1 false (.l 0)) ((zPD (vIndexAddr 5 (.l 0) (.v 5))) ((zLD B7 9 5 true (.l 0)) ((zCallD call B7 10 8 [(.l 4), (.l 0)] .push) ((zPD (vNot (.l 0))) k))))))))))
 (zCond (.l 0) (zSeq (zReg fun k => (zV 6 (vMv (.k (.bool false)))) k)
 zRet) zSkip)))
 (zReg fun k => (zP (vMv (.v 5))) ((zP (vInt E fAdd .add 3 false true (.l 0) (.k (.int .i64 1)))) ((zV 5 (vMv (.l 0))) k)))))
noncomputable def G8 (E : Env) : ZFn := ⟨83, [0, 1, 2, 3, 5, 6, 4], fun cy Y fuel =>
 (zSeq (zReg fun k => (zStep E (cy Y) ⟨.box 29 (.v 0), (.var 2), none, false, 0, (some 0)⟩) ((zStep E (cy Y) ⟨.box 29 (.v 1), (.var 3), none, false, 1, (some 1)⟩) ((zV 6 (vMv (.k (.bool false)))) k)))
 (zSeq (zSeq (zReg fun k => (zP (vFieldAddr 0 (.v 2))) ((zL 1 false (.l 0)) ((zP (vFieldAddr 0 (.v 3))) ((zL 1 false (.l 0)) ((zP (vInt E fNeq .neq 24 false false (.l 2) (.l 0))) ((zG (.l 0) false .push (zP (vFieldAddr 1 (.v 2)))) ((zG (.l 1) false .push (zL 1 false (.l 0))) ((zG (.l 2) false .push (zP (vFieldAddr 1 (.v 3)))) ((zG (.l 3) false .push (zL 1 false (.l 0))) ((zG (.l 4) false .push (zP (vInt E fNeq .neq 24 false false (.l 2) (.l 0)))) ((zP (vPick (.l 5) (.k (.bool true)) (.l 0))) ((zG (.l 0) false .push (zP (vFieldAddr 2 (.v 2)))) ((zG (.l 1) false .push (zL 1 false (.l 0))) ((zG (.l 2) false .push (zP (vFieldAddr 2 (.v 3)))) ((zG (.l 3) false .push (zL 1 false (.l 0))) ((zG (.l 4) false .push (zCall (cy Y) 11 [(.l 2), (.l 0)] .push)) ((zG (.l 5) false .push (zP (vNot (.l 0)))) ((zP (vPick (.l 6) (.k (.bool true)) (.l 0))) ((zG (.l 0) false .push (zP (vFieldAddr 3 (.v 2)))) ((zG (.l 1) false .push (zL 1 false (.l 0))) ((zG (.l 2) false .push (zP (vLenL (.l 0)))) ((zG (.l 3) false .push (zP (vFieldAddr 3 (.v 3)))) ((zG (.l 4) false .push (zL 1 false (.l 0))) ((zG (.l 5) false .push (zP (vLenL (.l 0)))) ((zG (.l 6) false .push (zP (vInt E fNeq .neq 3 false false (.l 3) (.l 0)))) ((zP (vPick (.l 7) (.k (.bool true)) (.l 0))) ((zG (.l 0) false .push (zP (vFieldAddr 4 (.v 2)))) ((zG (.l 1) false .push (zL 1 false (.l 0))) ((zG (.l 2) false .push (zP (vLenL (.l 0)))) ((zG (.l 3) false .push (zP (vFieldAddr 4 (.v 3)))) ((zG (.l 4) false .push (zL 1 false (.l 0))) ((zG (.l 5) false .push (zP (vLenL (.l 0)))) ((zG (.l 6) false .push (zP (vInt E fNeq .neq 3 false false (.l 3) (.l 0)))) ((zP (vPick (.l 7) (.k (.bool true)) (.l 0))) k))))))))))))))))))))))))))))))))))
 (zCond (.l 0) (zSeq (zReg fun k => (zV 6 (vMv (.k (.bool false)))) k)
 zRet) zSkip))
 (zSeq (zSeq (zReg fun k => (zV 4 (vMv (.k (.int .i64 0)))) k)
 (zBlock 0 (zLoop fuel (zSeq (zSeq (zReg fun k => (zP (vFieldAddr 3 (.v 2))) ((zL 1 false (.l 0)) ((zP (vLenL (.l 0))) ((zP (vInt E fLss .lss 3 false false (.v 4) (.l 0))) k))))
 (zCond (.l 0) zSkip (zExit 0)))
 (zSeq (zBlock 1 (zSeq (zDreg 1 fun n0 k => (zPD (vFieldAddr 3 (.v 2))) ((zLD B7 1 1 false (.l 0)) ((zPD (vIndexAddr 1 (.l 0) (.v 4))) ((zLD B7 4 1 false (.l 0)) ((zPD (vFieldAddr 3 (.v 3))) ((zLD B7 6 1 false (.l 0)) ((zPD (vIndexAddr 1 (.l 0) (.v 4))) ((zLD B7 9 1 false (.l 0)) ((zCallD (cy Y) B7 10 16 [(.l 4), (.l 0)] .push) ((zPD (vNot (.l 0))) k))))))))))
 (zCond (.l 0) (zSeq (zReg fun k => (zV 6 (vMv (.k (.bool false)))) k)
 zRet) zSkip)))
 (zReg fun k => (zP (vMv (.v 4))) ((zP (vInt E fAdd .add 3 false true (.l 0) (.k (.int .i64 1)))) ((zV 4 (vMv (.l 0))) k))))))))
 (zSeq (zSeq (zReg fun k => (zV 5 (vMv (.k (.int .i64 0)))) k)
 (zBlock 2 (zLoop fuel (xbody8 E (cy Y)))))
 (zSeq (zReg fun k => (zV 6 (vMv (.k (.bool true)))) k)
 zRet))))), [.tmp (.v 6)]⟩
theorem G8_ok (fn : Nat → Option Func) (pu : Nat → Bool) (pr : Nat → List AV → Option (Heap → Option (Eff × Acc))) : ZOk ⟨Tryz.tyT, fn, pu, pr⟩ npT F8 (G8 ⟨Tryz.tyT, fn, pu, pr⟩) := ⟨by kernel_rfl, by kernel_rfl, by kernel_rfl, fun cy Y k => by kernel_rfl⟩
noncomputable def F9 : FFn := cF LV 0 [0, 1, 2, 3, 4] Tryz.f9
noncomputable def G9 (E : Env) : ZFn := ⟨12, [0, 1, 2, 3, 4], fun cy Y fuel =>
 (zSeq (zReg fun k => (zStep E (cy Y) ⟨.box 37 (.v 0), (.var 2), none, false, 0, (some 0)⟩) ((zStep E (cy Y) ⟨.box 29 (.v 1), (.var 3), none, false, 1, (some 1)⟩) ((zV 4 (vMv (.k (.bool false)))) k)))
 (zSeq (zReg fun k => (zL 2 true (.v 2)) ((zCall (cy Y) 17 [(.l 0)] .push) ((zG (.l 0) true .push (zL 2 true (.v 2))) ((zG (.l 1) true .push (zL 5 true (.v 3))) ((zG (.l 2) true .push (zCall (cy Y) 18 [(.l 1), (.l 0)] .push)) ((zP (vPick (.l 3) (.l 0) (.k (.bool false)))) ((zV 4 (vMv (.l 0))) k)))))))
 zRet)), [.tmp (.v 4)]⟩
theorem G9_ok (fn : Nat → Option Func) (pu : Nat → Bool) (pr : Nat → List AV → Option (Heap → Option (Eff × Acc))) : ZOk ⟨Tryz.tyT, fn, pu, pr⟩ npT F9 (G9 ⟨Tryz.tyT, fn, pu, pr⟩) := ⟨by kernel_rfl, by kernel_rfl, by kernel_rfl, fun cy Y k => by kernel_rfl⟩
noncomputable def F10 : FFn := cF LV 0 [0, 17, 16, 15, 6, 4, 2, 3] Tryz.f10
noncomputable def G10 (E : Env) : ZFn := ⟨51, [0, 17, 16, 15, 6, 4, 2, 3], fun cy Y fuel =>
 (zSeq (zReg fun k => (zV 6 (vMv (.k (.sl 0 [] true)))) ((zV 7 (vMv (.k .nilIface))) k))
 (zSeq (zSeq (zReg fun k => (zCall (cy Y) 19 [(.v 0)] .push) ((zP (vNot (.l 0))) k))
 (zCond (.l 0) (zSeq (zReg fun k => (zStep E (cy Y) ⟨.mkIface 51 (.k (.int .i64 14)), .push, none, false, 0, none⟩) ((zV 6 (vMv (.k (.sl 0 [] true)))) ((zV 7 (vMv (.l 0))) k)))
 zRet) zSkip))
 (zSeq (zReg fun k => (zP (vMv (.v 0))) ((zStep E (cy Y) ⟨.call 20 [(.l 0)], .push, none, false, 1, (some 0)⟩) ((zV 0 (vMv (.l 0))) k)))
 (zSeq (zReg fun k => (zCall (cy Y) 21 [(.v 0), (.k (.clo 22 []))] .push) k)
 (zSeq (zReg fun k => (zV 5 (vMv (.k (.sl 0 [] true)))) k)
 (zSeq (zSeq (zReg fun k => (zV 3 (vMv (.v 0))) ((zV 2 (vLenL (.v 3))) ((zV 1 (vMv (.k (.int .i64 0)))) k)))
 (zBlock 0 (zLoop fuel (zSeq (zReg fun k => (zP (vInt E fLss .lss 3 false false (.v 1) (.v 2))) k)
 (zSeq (zCond (.l 0) zSkip (zExit 0))
 (zSeq (zBlock 1 (zSeq (zReg fun k => (zP (vIndexAddr 2 (.v 3) (.v 1))) ((zL 2 true (.l 0)) ((zStep E (cy Y) ⟨.alloc 43, (.var 4), none, false, 2, (some 0)⟩) ((zStep E (cy Y) ⟨.store 43 (.v 4) (.l 0), .none, none, false, 3, none⟩) k))))
 (zSeq (zDreg 0 fun n0 k => (zPD (vFieldAddr 1 (.v 4))) ((zLD B8 1 1 false (.l 0)) ((zPD (vInt E fGtr .gtr 24 false true (.l 0) (.k (.int .u64 0)))) ((zGD (.l 0) true .push (zPD (vMv (.v 5)))) ((zGD (.l 1) true .push (zPD (vLenL (.l 0)))) ((zGD (.l 2) true .push (zPD (vInt E fEql .eql 3 false true (.l 0) (.k (.int .i64 0))))) ((zGD (.l 3) true .push (zPD (vMv (.l 0)))) ((zGD (.l 0) false .push (zPD (vMv (.v 5)))) ((zGD (.l 1) false .push (zPD (vMv (.v 5)))) ((zGD (.l 2) false .push (zPD (vLenL (.l 0)))) ((zGD (.l 3) false .push (zPD (vInt E fSub .sub 3 false true (.l 0) (.k (.int .i64 1))))) ((zGD (.l 4) false .push (zPD (vIndexAddr 2 (.l 3) (.l 0)))) ((zGD (.l 5) false .push (zPD (vFieldAddr 0 (.l 0)))) ((zGD (.l 6) false .push (zLD B8 14 1 false (.l 0))) ((zGD (.l 7) false .push (zPD (vFieldAddr 0 (.v 4)))) ((zGD (.l 8) false .push (zLD B8 16 1 false (.l 0))) ((zGD (.l 9) false .push (zPD (vInt E fNeq .neq 3 false false (.l 2) (.l 0)))) ((zGD (.l 14) true .push (zPD (vPick (.l 10) (.k (.bool true)) (.l 0)))) ((zPD (vPick (.l 15) (.l 0) (.k (.bool false)))) k)))))))))))))))))))
 (zCond (.l 0) (zReg fun k => (zP (vMv (.v 5))) ((zL 2 true (.v 4)) ((zStep E (cy Y) ⟨.buildSlice 44 1 [(0, (.l 0))], .push, none, false, 2, (some 0)⟩) ((zStep E (cy Y) ⟨.append 44 44 (.l 2) (.l 0), .push, none, false, 3, (some 1)⟩) ((zV 5 (vMv (.l 0))) k))))) zSkip))))
 (zReg fun k => (zP (vInt E fAdd .add 3 false true (.v 1) (.k (.int .i64 1)))) ((zV 1 (vMv (.l 0))) k))))))))
 (zSeq (zSeq (zReg fun k => (zP (vLenL (.v 5))) ((zP (vInt E fGtr .gtr 3 false true (.l 0) (.k (.int .i64 40)))) k))
 (zCond (.l 0) (zSeq (zReg fun k => (zStep E (cy Y) ⟨.mkIface 51 (.k (.int .i64 13)), .push, none, false, 0, none⟩) ((zV 6 (vMv (.k (.sl 0 [] true)))) ((zV 7 (vMv (.l 0))) k)))
 zRet) zSkip))
 (zSeq (zReg fun k => (zV 6 (vMv (.v 5))) ((zV 7 (vMv (.k .nilIface))) k))
 zRet)))))))), [.tmp (.v 6), .tmp (.v 7)]⟩
theorem G10_ok (fn : Nat → Option Func) (pu : Nat → Bool) (pr : Nat → List AV → Option (Heap → Option (Eff × Acc))) : ZOk ⟨Tryz.tyT, fn, pu, pr⟩ npT F10 (G10 ⟨Tryz.tyT, fn, pu, pr⟩) := ⟨by kernel_rfl, by kernel_rfl, by kernel_rfl, fun cy Y k => by kernel_rfl⟩
noncomputable def F11 : FFn := cF LV 0 [0, 1, 5, 4] Tryz.f11
noncomputable def xbody11 (E : Env) (call : CallTT) : CZ := (zSeq (zSeq (zReg fun k => (zP (vLenL (.v 0))) ((zP (vInt E fLss .lss 3 false false (.v 2) (.l 0))) k))
 (zCond (.l 0) zSkip (zExit 0)))
 (zSeq (zBlock 1 (zSeq (zDreg 0 fun n0 k => (zPD (vIndexAddr 1 (.v 0) (.v 2))) ((zLD B9 3 1 false (.l 0)) ((zPD (vIndexAddr 1 (.v 1) (.v 2))) ((zLD B9 7 1 false (.l 0)) ((zPD (vInt E fNeq .neq 9 false false (.l 2) (.l 0))) k)))))
 (zCond (.l 0) (zSeq (zReg fun k => (zV 3 (vMv (.k (.bool false)))) k)
 zRet) zSkip)))
 (zReg fun k => (zP (vMv (.v 2))) ((zP (vInt E fAdd .add 3 false true (.l 0) (.k (.int .i64 1)))) ((zV 2 (vMv (.l 0))) k)))))
noncomputable def G11 (E : Env) : ZFn := ⟨26, [0, 1, 5, 4], fun cy Y fuel =>
 (zSeq (zReg fun k => (zV 3 (vMv (.k (.bool false)))) k)
 (zSeq (zSeq (zReg fun k => (zP (vLenL (.v 0))) ((zP (vLenL (.v 1))) ((zP (vInt E fNeq .neq 3 false false (.l 1) (.l 0))) k)))
 (zCond (.l 0) (zSeq (zReg fun k => (zV 3 (vMv (.k (.bool false)))) k)
 zRet) zSkip))
 (zSeq (zSeq (zReg fun k => (zV 2 (vMv (.k (.int .i64 0)))) k)
 (zBlock 0 (zLoop fuel (xbody11 E (cy Y)))))
 (zSeq (zReg fun k => (zV 3 (vMv (.k (.bool true)))) k)
 zRet)))), [.tmp (.v 3)]⟩
theorem G11_ok (fn : Nat → Option Func) (pu : Nat → Bool) (pr : Nat → List AV → Option (Heap → Option (Eff × Acc))) : ZOk ⟨Tryz.tyT, fn, pu, pr⟩ npT F11 (G11 ⟨Tryz.tyT, fn, pu, pr⟩) := ⟨by kernel_rfl, by kernel_rfl, by kernel_rfl, fun cy Y k => by kernel_rfl⟩
noncomputable def F13 : FFn := cF LV 0 [0, 1, 2] Tryz.f13
noncomputable def G13 (E : Env) : ZFn := ⟨5, [0, 1, 2], fun cy Y fuel =>
 (zSeq (zReg fun k => (zStep E (cy Y) ⟨.box 37 (.v 0), (.var 1), none, false, 0, (some 0)⟩) ((zV 2 (vMv (.k (.bool false)))) k))
 (zSeq (zReg fun k => (zL 2 true (.v 1)) ((zCall (cy Y) 28 [(.l 0), (.k (.int .i64 16))] .push) ((zV 2 (vMv (.l 0))) k)))
 zRet)), [.tmp (.v 2)]⟩
theorem G13_ok (fn : Nat → Option Func) (pu : Nat → Bool) (pr : Nat → List AV → Option (Heap → Option (Eff × Acc))) : ZOk ⟨Tryz.tyT, fn, pu, pr⟩ npT F13 (G13 ⟨Tryz.tyT, fn, pu, pr⟩) := ⟨by kernel_rfl, by kernel_rfl, by kernel_rfl, fun cy Y k => by kernel_rfl⟩
noncomputable def F14 : FFn := cF LV 0 [0, 1, 3, 5, 2, 27, 26, 25, 6, 7, 4] Tryz.f14
noncomputable def xbody14 (E : Env) (call : CallTT) : CZ := (zSeq (zReg fun k => (zP (vInt E fLss .lss 3 false false (.v 5) (.v 6))) k)
 (zSeq (zCond (.l 0) zSkip (zExit 0))
 (zSeq (zBlock 1 (zSeq (zReg fun k => (zP (vIndexAddr 5 (.v 7) (.v 5))) ((zL 5 true (.l 0)) ((zStep E call ⟨.alloc 29, (.var 9), none, false, 3, (some 0)⟩) ((zV 8 (vMv (.v 5))) ((zStep E call ⟨.store 29 (.v 9) (.l 0), .none, none, false, 5, none⟩) k)))))
 (zSeq (zDreg 1 fun n0 k => (zPD (vFieldAddr 1 (.v 4))) ((zLD B10 1 1 false (.l 0)) ((zPD (vFieldAddr 1 (.v 4))) ((zLD B10 4 1 false (.l 0)) ((zPD (vLenL (.l 0))) ((zPD (vInt E fSub .sub 3 false true (.l 0) (.k (.int .i64 1)))) ((zStepD E call B10 n0 ⟨.most false [(.v 8), (.l 0)], .push, none, false, 7, none⟩) ((zPD (vIndexAddr 2 (.l 5) (.l 0))) ((zLD B10 9 2 true (.l 0)) ((zLD B10 10 5 true (.v 9)) ((zCallD call B10 11 14 [(.l 1), (.l 0)] .push) ((zPD (vNot (.l 0))) k))))))))))))
 (zCond (.l 0) (zSeq (zReg fun k => (zV 10 (vMv (.k (.bool false)))) k)
 zRet) zSkip))))
 (zReg fun k => (zP (vInt E fAdd .add 3 false true (.v 5) (.k (.int .i64 1)))) ((zV 5 (vMv (.l 0))) k)))))
noncomputable def G14 (E : Env) : ZFn := ⟨46, [0, 1, 3, 5, 2, 27, 26, 25, 6, 7, 4], fun cy Y fuel =>
 (zSeq (zReg fun k => (zStep E (cy Y) ⟨.box 37 (.v 0), (.var 4), none, false, 0, (some 0)⟩) ((zStep E (cy Y) ⟨.box 29 (.v 1), (.var 2), none, false, 1, (some 1)⟩) ((zV 10 (vMv (.k (.bool false)))) k)))
 (zSeq (zReg fun k => (zP (vFieldAddr 2 (.v 2))) ((zL 1 false (.l 0)) ((zCall (cy Y) 29 [(.l 0), (.k (.clo 30 []))] .push) ((zV 3 (vMv (.l 0))) k))))
 (zSeq (zSeq (zReg fun k => (zG (.v 3) false .push (zP (vFieldAddr 0 (.v 4)))) ((zG (.v 3) false .push (zL 1 false (.l 0))) ((zG (.v 3) false .push (zL 5 true (.v 2))) ((zG (.v 3) false .push (zCall (cy Y) 31 [(.l 1), (.l 0)] .push)) ((zG (.v 3) false .push (zP (vNot (.l 0)))) ((zP (vPick (.v 3) (.k (.bool true)) (.l 0))) ((zG (.l 0) false .push (zP (vFieldAddr 3 (.v 2)))) ((zG (.l 1) false .push (zL 1 false (.l 0))) ((zG (.l 2) false .push (zCall (cy Y) 32 [(.l 0), (.k (.clo 33 []))] .push)) ((zP (vPick (.l 3) (.k (.bool true)) (.l 0))) k))))))))))
 (zCond (.l 0) (zSeq (zReg fun k => (zV 10 (vMv (.k (.bool false)))) k)
 zRet) zSkip))
 (zSeq (zSeq (zReg fun k => (zP (vFieldAddr 4 (.v 2))) ((zDstW (.var 7) (wLoad 1 false (.l 0))) ((zV 6 (vLenL (.v 7))) ((zV 5 (vMv (.k (.int .i64 0)))) k))))
 (zBlock 0 (zLoop fuel (xbody14 E (cy Y)))))
 (zSeq (zReg fun k => (zV 10 (vMv (.k (.bool true)))) k)
 zRet))))), [.tmp (.v 10)]⟩
theorem G14_ok (fn : Nat → Option Func) (pu : Nat → Bool) (pr : Nat → List AV → Option (Heap → Option (Eff × Acc))) : ZOk ⟨Tryz.tyT, fn, pu, pr⟩ npT F14 (G14 ⟨Tryz.tyT, fn, pu, pr⟩) := ⟨by kernel_rfl, by kernel_rfl, by kernel_rfl, fun cy Y k => by kernel_rfl⟩
noncomputable def F15 : FFn := cF LV 0 [0, 1, 2, 8, 3, 6, 4, 5] Tryz.f15
noncomputable def G15 (E : Env) : ZFn := ⟨49, [0, 1, 2, 8, 3, 6, 4, 5], fun cy Y fuel =>
 (zSeq (zReg fun k => (zStep E (cy Y) ⟨.box 37 (.v 0), (.var 2), none, false, 0, (some 0)⟩) ((zStep E (cy Y) ⟨.box 29 (.v 1), (.var 4), none, false, 1, (some 1)⟩) ((zStep E (cy Y) ⟨.alloc 29, (.var 6), none, false, 2, (some 2)⟩) ((zV 7 (vMv (.k .nilIface))) k))))
 (zSeq (zSeq (zReg fun k => (zP (vFieldAddr 0 (.v 2))) ((zDstW (.var 3) (wLoad 1 false (.l 0))) k))
 (zBlock 0 (zSeq (zReg fun k => (zP (vInt E fEql .eql 3 false true (.v 3) (.k (.int .i64 3)))) ((zP (vMv (.l 0))) k))
 (zCond (.l 0) (zSeq (zReg fun k => (zP (vFieldAddr 2 (.v 4))) ((zL 1 false (.l 0)) ((zCall (cy Y) 34 [(.l 0)] .push) ((zV 5 (vMv (.l 0))) k))))
 (zSeq (zSeq (zReg fun k => (zP (vLenL (.v 5))) ((zP (vInt E fGtr .gtr 3 false true (.l 0) (.k (.int .i64 40)))) k))
 (zCond (.l 0) (zSeq (zReg fun k => (zStep E (cy Y) ⟨.build 29 [], .push, none, false, 0, none⟩) ((zStep E (cy Y) ⟨.mkIface 51 (.k (.int .i64 13)), .push, none, false, 1, none⟩) ((zStep E (cy Y) ⟨.store 29 (.v 6) (.l 1), .none, none, false, 2, none⟩) ((zV 7 (vMv (.l 0))) k))))
 zRet) zSkip))
 (zSeq (zReg fun k => (zStep E (cy Y) ⟨.build 29 [(2, (.v 5))], .push, none, false, 1, none⟩) ((zStep E (cy Y) ⟨.store 29 (.v 6) (.l 0), .none, none, false, 2, none⟩) ((zV 7 (vMv (.k .nilIface))) k)))
 zRet))) (zSeq (zReg fun k => (zP (vInt E fEql .eql 3 false true (.v 3) (.k (.int .i64 4)))) ((zP (vMv (.l 0))) k))
 (zCond (.l 0) (zSeq (zReg fun k => (zL 2 true (.v 2)) ((zL 5 true (.v 4)) ((zCall (cy Y) 35 [(.l 1), (.l 0)] .push) ((zP (vExtract 0 (.l 0))) ((zP (vExtract 1 (.l 1))) ((zStep E (cy Y) ⟨.store 29 (.v 6) (.l 1), .none, none, false, 5, none⟩) ((zV 7 (vMv (.l 0))) k)))))))
 zRet) (zSeq (zReg fun k => (zP (vInt E fEql .eql 3 false true (.v 3) (.k (.int .i64 5)))) ((zP (vMv (.l 0))) k))
 (zCond (.l 0) (zSeq (zReg fun k => (zL 2 true (.v 2)) ((zL 5 true (.v 4)) ((zCall (cy Y) 36 [(.l 1), (.l 0)] .push) ((zP (vExtract 0 (.l 0))) ((zP (vExtract 1 (.l 1))) ((zStep E (cy Y) ⟨.store 29 (.v 6) (.l 1), .none, none, false, 5, none⟩) ((zV 7 (vMv (.l 0))) k)))))))
 zRet) (zSeq (zReg fun k => (zP (vInt E fEql .eql 3 false true (.v 3) (.k (.int .i64 7)))) ((zP (vMv (.l 0))) k))
 (zCond (.l 0) (zSeq (zReg fun k => (zL 5 true (.v 4)) ((zCall (cy Y) 37 [(.l 0)] .push) ((zP (vExtract 0 (.l 0))) ((zP (vExtract 1 (.l 1))) ((zStep E (cy Y) ⟨.store 29 (.v 6) (.l 1), .none, none, false, 4, none⟩) ((zV 7 (vMv (.l 0))) k))))))
 zRet) (zSeq (zReg fun k => (zP (vInt E fEql .eql 3 false true (.v 3) (.k (.int .i64 8)))) ((zP (vMv (.l 0))) k))
 (zCond (.l 0) (zSeq (zReg fun k => (zL 2 true (.v 2)) ((zL 5 true (.v 4)) ((zCall (cy Y) 38 [(.l 1), (.l 0)] .push) ((zP (vExtract 0 (.l 0))) ((zP (vExtract 1 (.l 1))) ((zStep E (cy Y) ⟨.store 29 (.v 6) (.l 1), .none, none, false, 5, none⟩) ((zV 7 (vMv (.l 0))) k)))))))
 zRet) zSkip))))))))))))
 (zSeq (zReg fun k => (zL 5 true (.v 4)) ((zStep E (cy Y) ⟨.store 29 (.v 6) (.l 0), .none, none, false, 1, none⟩) ((zV 7 (vMv (.k .nilIface))) k)))
 zRet))), [.cell (.v 6) 29, .tmp (.v 7)]⟩
theorem G15_ok (fn : Nat → Option Func) (pu : Nat → Bool) (pr : Nat → List AV → Option (Heap → Option (Eff × Acc))) : ZOk ⟨Tryz.tyT, fn, pu, pr⟩ npT F15 (G15 ⟨Tryz.tyT, fn, pu, pr⟩) := ⟨by kernel_rfl, by kernel_rfl, by kernel_rfl, fun cy Y k => by kernel_rfl⟩
noncomputable def F17 : FFn := cF LV 0 [0, 1, 2] Tryz.f17
noncomputable def G17 (E : Env) : ZFn := ⟨5, [0, 1, 2], fun cy Y fuel =>
 (zSeq (zReg fun k => (zStep E (cy Y) ⟨.box 37 (.v 0), (.var 1), none, false, 0, (some 0)⟩) ((zV 2 (vMv (.k (.bool false)))) k))
 (zSeq (zReg fun k => (zL 2 true (.v 1)) ((zCall (cy Y) 39 [(.l 0), (.k (.int .i64 16))] .push) ((zV 2 (vMv (.l 0))) k)))
 zRet)), [.tmp (.v 2)]⟩
theorem G17_ok (fn : Nat → Option Func) (pu : Nat → Bool) (pr : Nat → List AV → Option (Heap → Option (Eff × Acc))) : ZOk ⟨Tryz.tyT, fn, pu, pr⟩ npT F17 (G17 ⟨Tryz.tyT, fn, pu, pr⟩) := ⟨by kernel_rfl, by kernel_rfl, by kernel_rfl, fun cy Y k => by kernel_rfl⟩
noncomputable def F18 : FFn := cF LV 0 [0, 1, 2, 3, 23, 5, 4] Tryz.f18
noncomputable def G18 (E : Env) : ZFn := ⟨104, [0, 1, 2, 3, 23, 5, 4], fun cy Y fuel =>
 (zSeq (zReg fun k => (zStep E (cy Y) ⟨.box 37 (.v 0), (.var 2), none, false, 0, (some 0)⟩) ((zStep E (cy Y) ⟨.box 29 (.v 1), (.var 3), none, false, 1, (some 1)⟩) ((zV 6 (vMv (.k (.bool false)))) k)))
 (zSeq (zSeq (zReg fun k => (zL 2 true (.v 2)) ((zL 5 true (.v 3)) ((zCall (cy Y) 40 [(.l 1), (.l 0)] .push) ((zP (vNot (.l 0))) ((zG (.l 0) false .push (zP (vFieldAddr 2 (.v 3)))) ((zG (.l 1) false .push (zL 1 false (.l 0))) ((zG (.l 2) false .push (zCall (cy Y) 41 [(.l 0)] .push)) ((zG (.l 3) false .push (zP (vNot (.l 0)))) ((zP (vPick (.l 4) (.k (.bool true)) (.l 0))) ((zG (.l 0) false .push (zP (vFieldAddr 2 (.v 3)))) ((zG (.l 1) false .push (zL 1 false (.l 0))) ((zG (.l 2) false .push (zP (vLenL (.l 0)))) ((zG (.l 3) false .push (zP (vInt E fGtr .gtr 3 false true (.l 0) (.k (.int .i64 40))))) ((zP (vPick (.l 4) (.k (.bool true)) (.l 0))) k))))))))))))))
 (zCond (.l 0) (zSeq (zReg fun k => (zV 6 (vMv (.k (.bool false)))) k)
 zRet) zSkip))
 (zSeq (zSeq (zReg fun k => (zP (vFieldAddr 0 (.v 2))) ((zDstW (.var 4) (wLoad 1 false (.l 0))) k))
 (zBlock 0 (zSeq (zReg fun k => (zP (vInt E fEql .eql 3 false true (.v 4) (.k (.int .i64 4)))) ((zP (vMv (.l 0))) k))
 (zCond (.l 0) (zSeq (zReg fun k => (zV 5 (vMv (.k (.int .i64 0)))) k)
 (zBlock 1 (zLoop fuel (zSeq (zSeq (zReg fun k => (zP (vFieldAddr 4 (.v 3))) ((zL 1 false (.l 0)) ((zP (vLenL (.l 0))) ((zP (vInt E fLss .lss 3 false false (.v 5) (.l 0))) k))))
 (zCond (.l 0) zSkip (zExit 1)))
 (zSeq (zBlock 2 (zSeq (zDreg 2 fun n0 k => (zPD (vFieldAddr 1 (.v 2))) ((zLD B11 1 1 false (.l 0)) ((zPD (vIndexAddr 2 (.l 0) (.k (.int .i64 0)))) ((zLD B11 3 2 true (.l 0)) ((zPD (vFieldAddr 4 (.v 3))) ((zLD B11 5 1 false (.l 0)) ((zPD (vIndexAddr 5 (.l 0) (.v 5))) ((zLD B11 8 5 true (.l 0)) ((zCallD (cy Y) B11 9 18 [(.l 4), (.l 0)] .push) ((zPD (vNot (.l 0))) ((zGD (.l 0) false .push (zPD (vFieldAddr 1 (.v 2)))) ((zGD (.l 1) false .push (zLD B11 13 1 false (.l 0))) ((zGD (.l 2) false .push (zPD (vIndexAddr 2 (.l 0) (.k (.int .i64 0))))) ((zGD (.l 3) false .push (zLD B11 15 2 true (.l 0))) ((zGD (.l 4) false .push (zPD (vFieldAddr 4 (.v 3)))) ((zGD (.l 5) false .push (zLD B11 17 1 false (.l 0))) ((zGD (.l 6) false .push (zPD (vMv (.v 5)))) ((zGD (.l 7) false .push (zPD (vIndexAddr 5 (.l 1) (.l 0)))) ((zGD (.l 8) false .push (zLD B11 20 5 true (.l 0))) ((zGD (.l 9) false .push (zCallD (cy Y) B11 21 42 [(.l 5), (.l 0)] .push)) ((zPD (vPick (.l 10) (.k (.bool true)) (.l 0))) k)))))))))))))))))))))
 (zCond (.l 0) (zSeq (zReg fun k => (zV 6 (vMv (.k (.bool false)))) k)
 zRet) zSkip)))
 (zReg fun k => (zP (vMv (.v 5))) ((zP (vInt E fAdd .add 3 false true (.l 0) (.k (.int .i64 1)))) ((zV 5 (vMv (.l 0))) k)))))))) (zSeq (zReg fun k => (zP (vInt E fEql .eql 3 false true (.v 4) (.k (.int .i64 5)))) ((zP (vMv (.l 0))) k))
 (zCond (.l 0) (zSeq (zDreg 2 fun n0 k => (zPD (vFieldAddr 1 (.v 2))) ((zLD B12 1 1 false (.l 0)) ((zPD (vIndexAddr 2 (.l 0) (.k (.int .i64 0)))) ((zLD B12 3 2 true (.l 0)) ((zPD (vFieldAddr 4 (.v 3))) ((zLD B12 5 1 false (.l 0)) ((zPD (vIndexAddr 5 (.l 0) (.k (.int .i64 0)))) ((zLD B12 7 5 true (.l 0)) ((zCallD (cy Y) B12 8 18 [(.l 4), (.l 0)] .push) ((zGD (.l 0) true .push (zPD (vFieldAddr 1 (.v 2)))) ((zGD (.l 1) true .push (zLD B12 11 1 false (.l 0))) ((zGD (.l 2) true .push (zPD (vIndexAddr 2 (.l 0) (.k (.int .i64 1))))) ((zGD (.l 3) true .push (zLD B12 13 2 true (.l 0))) ((zGD (.l 4) true .push (zPD (vFieldAddr 4 (.v 3)))) ((zGD (.l 5) true .push (zLD B12 15 1 false (.l 0))) ((zGD (.l 6) true .push (zPD (vIndexAddr 5 (.l 0) (.k (.int .i64 1))))) ((zGD (.l 7) true .push (zLD B12 17 5 true (.l 0))) ((zGD (.l 8) true .push (zCallD (cy Y) B12 18 18 [(.l 4), (.l 0)] .push)) ((zPD (vPick (.l 9) (.l 0) (.k (.bool false)))) ((zVD 6 (vMv (.l 0))) k))))))))))))))))))))
 zRet) (zSeq (zReg fun k => (zP (vInt E fEql .eql 3 false true (.v 4) (.k (.int .i64 7)))) ((zP (vMv (.l 0))) k))
 (zCond (.l 0) (zSeq (zReg fun k => (zP (vFieldAddr 3 (.v 3))) ((zL 1 false (.l 0)) ((zP (vLenL (.l 0))) ((zP (vInt E fEql .eql 3 false true (.l 0) (.k (.int .i64 0)))) ((zG (.l 0) false .push (zP (vFieldAddr 3 (.v 3)))) ((zG (.l 1) false .push (zL 1 false (.l 0))) ((zG (.l 2) false .push (zP (vIndexAddr 1 (.l 0) (.k (.int .i64 0))))) ((zG (.l 3) false .push (zL 1 false (.l 0))) ((zG (.l 4) false .push (zCall (cy Y) 43 [(.l 0)] .push)) ((zG (.l 5) false .push (zP (vMv (.l 0)))) ((zG (.l 0) true .push (zP (vFieldAddr 3 (.v 3)))) ((zG (.l 1) true .push (zL 1 false (.l 0))) ((zG (.l 2) true .push (zP (vIndexAddr 1 (.l 0) (.k (.int .i64 0))))) ((zG (.l 3) true .push (zL 1 false (.l 0))) ((zG (.l 4) true .push (zP (vLenL (.l 0)))) ((zG (.l 5) true .push (zP (vInt E fGtr .gtr 3 false true (.l 0) (.k (.int .i64 0))))) ((zG (.l 12) false .push (zP (vPick (.l 6) (.l 0) (.k (.bool false))))) ((zP (vPick (.l 13) (.k (.bool true)) (.l 0))) ((zV 6 (vMv (.l 0))) k)))))))))))))))))))
 zRet) (zSeq (zReg fun k => (zP (vInt E fEql .eql 3 false true (.v 4) (.k (.int .i64 8)))) ((zP (vMv (.l 0))) k))
 (zCond (.l 0) (zSeq (zReg fun k => (zL 2 true (.v 2)) ((zL 5 true (.v 3)) ((zCall (cy Y) 44 [(.l 1), (.l 0)] .push) ((zV 6 (vMv (.l 0))) k))))
 zRet) zSkip))))))))))
 (zSeq (zReg fun k => (zV 6 (vMv (.k (.bool true)))) k)
 zRet)))), [.tmp (.v 6)]⟩
theorem G18_ok (fn : Nat → Option Func) (pu : Nat → Bool) (pr : Nat → List AV → Option (Heap → Option (Eff × Acc))) : ZOk ⟨Tryz.tyT, fn, pu, pr⟩ npT F18 (G18 ⟨Tryz.tyT, fn, pu, pr⟩) := ⟨by kernel_rfl, by kernel_rfl, by kernel_rfl, fun cy Y k => by kernel_rfl⟩
noncomputable def F19 : FFn := cF LV 0 [0, 2] Tryz.f19
noncomputable def G19 (E : Env) : ZFn := ⟨6, [0, 2], fun cy Y fuel =>
 (zSeq (zReg fun k => (zV 1 (vMv (.k (.bool false)))) k)
 (zSeq (zReg fun k => (zCall (cy Y) 45 [(.v 0), (.k (.clo 46 []))] .push) ((zP (vNot (.l 0))) ((zV 1 (vMv (.l 0))) k)))
 zRet)), [.tmp (.v 1)]⟩
theorem G19_ok (fn : Nat → Option Func) (pu : Nat → Bool) (pr : Nat → List AV → Option (Heap → Option (Eff × Acc))) : ZOk ⟨Tryz.tyT, fn, pu, pr⟩ npT F19 (G19 ⟨Tryz.tyT, fn, pu, pr⟩) := ⟨by kernel_rfl, by kernel_rfl, by kernel_rfl, fun cy Y k => by kernel_rfl⟩
noncomputable def F21 : FFn := cF LV 0 [0, 1] Tryz.f21
noncomputable def G21 (E : Env) : ZFn := ⟨9, [0, 1], fun cy Y fuel =>
 (zReg fun k => (zP (vLenL (.v 0))) ((zCall (cy Y) 47 [(.v 0), (.l 0), (.v 1)] .push) k)), []⟩
theorem G21_ok (fn : Nat → Option Func) (pu : Nat → Bool) (pr : Nat → List AV → Option (Heap → Option (Eff × Acc))) : ZOk ⟨Tryz.tyT, fn, pu, pr⟩ npT F21 (G21 ⟨Tryz.tyT, fn, pu, pr⟩) := ⟨by kernel_rfl, by kernel_rfl, by kernel_rfl, fun cy Y k => by kernel_rfl⟩
noncomputable def F22 : FFn := cF LV 0 [0, 1, 2, 3, 4] Tryz.f22
noncomputable def G22 (E : Env) : ZFn := ⟨17, [0, 1, 2, 3, 4], fun cy Y fuel =>
 (zSeq (zReg fun k => (zStep E (cy Y) ⟨.box 43 (.v 0), (.var 2), none, false, 0, (some 0)⟩) ((zStep E (cy Y) ⟨.box 43 (.v 1), (.var 3), none, false, 1, (some 1)⟩) ((zV 4 (vMv (.k (.int .i64 0)))) k)))
 (zSeq (zDreg 4 fun n0 k => (zPD (vFieldAddr 0 (.v 2))) ((zLD B13 1 1 false (.l 0)) ((zPD (vFieldAddr 0 (.v 3))) ((zLD B13 3 1 false (.l 0)) ((zCallD (cy Y) B13 4 24 [(.l 2), (.l 0)] .push) ((zPD (vFieldAddr 1 (.v 3))) ((zLD B13 6 1 false (.l 0)) ((zPD (vFieldAddr 1 (.v 2))) ((zLD B13 8 1 false (.l 0)) ((zCallD (cy Y) B13 9 25 [(.l 2), (.l 0)] .push) ((zStepD E (cy Y) B13 n0 ⟨.buildSlice 76 2 [(0, (.l 5)), (1, (.l 0))], .push, none, false, 10, (some 2)⟩) ((zCallD (cy Y) B13 11 23 [(.l 0)] .push) ((zVD 4 (vMv (.l 0))) k)))))))))))))
 zRet)), [.tmp (.v 4)]⟩
theorem G22_ok (fn : Nat → Option Func) (pu : Nat → Bool) (pr : Nat → List AV → Option (Heap → Option (Eff × Acc))) : ZOk ⟨Tryz.tyT, fn, pu, pr⟩ npT F22 (G22 ⟨Tryz.tyT, fn, pu, pr⟩) := ⟨by kernel_rfl, by kernel_rfl, by kernel_rfl, fun cy Y k => by kernel_rfl⟩
noncomputable def F23 : FFn := cF LV 0 [0, 8, 7, 6, 5, 3, 2] Tryz.f23
noncomputable def G23 (E : Env) : ZFn := ⟨18, [0, 8, 7, 6, 5, 3, 2], fun cy Y fuel =>
 (zSeq (zReg fun k => (zV 6 (vMv (.k (.int .i64 0)))) k)
 (zSeq (zReg fun k => (zV 5 (vMv (.k (.int .i64 0)))) k)
 (zSeq (zSeq (zReg fun k => (zV 3 (vMv (.v 0))) ((zV 2 (vLenL (.v 3))) ((zV 1 (vMv (.k (.int .i64 0)))) k)))
 (zBlock 0 (zLoop fuel (zSeq (zReg fun k => (zP (vInt E fLss .lss 3 false false (.v 1) (.v 2))) k)
 (zSeq (zCond (.l 0) zSkip (zExit 0))
 (zSeq (zBlock 1 (zSeq (zReg fun k => (zP (vIndexAddr 1 (.v 3) (.v 1))) ((zL 1 false (.l 0)) ((zV 4 (vMv (.l 0))) k)))
 (zSeq (zReg fun k => (zP (vInt E fNeq .neq 3 false false (.v 4) (.v 5))) k)
 (zCond (.l 0) (zSeq (zReg fun k => (zV 6 (vMv (.v 4))) k)
 zRet) zSkip))))
 (zReg fun k => (zP (vInt E fAdd .add 3 false true (.v 1) (.k (.int .i64 1)))) ((zV 1 (vMv (.l 0))) k))))))))
 (zSeq (zReg fun k => (zV 6 (vMv (.v 5))) k)
 zRet)))), [.tmp (.v 6)]⟩
theorem G23_ok (fn : Nat → Option Func) (pu : Nat → Bool) (pr : Nat → List AV → Option (Heap → Option (Eff × Acc))) : ZOk ⟨Tryz.tyT, fn, pu, pr⟩ npT F23 (G23 ⟨Tryz.tyT, fn, pu, pr⟩) := ⟨by kernel_rfl, by kernel_rfl, by kernel_rfl, fun cy Y k => by kernel_rfl⟩
noncomputable def F24 : FFn := cF LV 0 [0, 1, 5, 6, 4] Tryz.f24
noncomputable def G24 (E : Env) : ZFn := ⟨20, [0, 1, 5, 6, 4], fun cy Y fuel =>
 (zSeq (zReg fun k => (zV 4 (vMv (.k (.int .i64 0)))) k)
 (zSeq (zReg fun k => (zCall (cy Y) 48 [(.v 0)] .push) ((zV 2 (vMv (.l 0))) k))
 (zSeq (zReg fun k => (zCall (cy Y) 48 [(.v 1)] .push) ((zV 3 (vMv (.l 0))) k))
 (zSeq (zSeq (zReg fun k => k)
 (zCond (.v 2) (zSeq (zSeq (zReg fun k => k)
 (zCond (.v 3) (zSeq (zReg fun k => (zV 4 (vMv (.k (.int .i64 0)))) k)
 zRet) zSkip))
 (zSeq (zReg fun k => (zV 4 (vMv (.k (.int .i64 (-1))))) k)
 zRet)) zSkip))
 (zSeq (zSeq (zReg fun k => k)
 (zCond (.v 3) (zSeq (zReg fun k => (zV 4 (vMv (.k (.int .i64 1)))) k)
 zRet) zSkip))
 (zSeq (zSeq (zReg fun k => (zP (vInt E fLss .lss 3 false false (.v 0) (.v 1))) k)
 (zCond (.l 0) (zSeq (zReg fun k => (zV 4 (vMv (.k (.int .i64 (-1))))) k)
 zRet) zSkip))
 (zSeq (zSeq (zReg fun k => (zP (vInt E fGtr .gtr 3 false false (.v 0) (.v 1))) k)
 (zCond (.l 0) (zSeq (zReg fun k => (zV 4 (vMv (.k (.int .i64 1)))) k)
 zRet) zSkip))
 (zSeq (zReg fun k => (zV 4 (vMv (.k (.int .i64 0)))) k)
 zRet)))))))), [.tmp (.v 4)]⟩
theorem G24_ok (fn : Nat → Option Func) (pu : Nat → Bool) (pr : Nat → List AV → Option (Heap → Option (Eff × Acc))) : ZOk ⟨Tryz.tyT, fn, pu, pr⟩ npT F24 (G24 ⟨Tryz.tyT, fn, pu, pr⟩) := ⟨by kernel_rfl, by kernel_rfl, by kernel_rfl, fun cy Y k => by kernel_rfl⟩
noncomputable def F25 : FFn := cF LV 0 [0, 1, 5, 6, 4] Tryz.f25
noncomputable def G25 (E : Env) : ZFn := ⟨20, [0, 1, 5, 6, 4], fun cy Y fuel =>
 (zSeq (zReg fun k => (zV 4 (vMv (.k (.int .i64 0)))) k)
 (zSeq (zReg fun k => (zCall (cy Y) 49 [(.v 0)] .push) ((zV 2 (vMv (.l 0))) k))
 (zSeq (zReg fun k => (zCall (cy Y) 49 [(.v 1)] .push) ((zV 3 (vMv (.l 0))) k))
 (zSeq (zSeq (zReg fun k => k)
 (zCond (.v 2) (zSeq (zSeq (zReg fun k => k)
 (zCond (.v 3) (zSeq (zReg fun k => (zV 4 (vMv (.k (.int .i64 0)))) k)
 zRet) zSkip))
 (zSeq (zReg fun k => (zV 4 (vMv (.k (.int .i64 (-1))))) k)
 zRet)) zSkip))
 (zSeq (zSeq (zReg fun k => k)
 (zCond (.v 3) (zSeq (zReg fun k => (zV 4 (vMv (.k (.int .i64 1)))) k)
 zRet) zSkip))
 (zSeq (zSeq (zReg fun k => (zP (vInt E fLss .lss 24 false false (.v 0) (.v 1))) k)
 (zCond (.l 0) (zSeq (zReg fun k => (zV 4 (vMv (.k (.int .i64 (-1))))) k)
 zRet) zSkip))
 (zSeq (zSeq (zReg fun k => (zP (vInt E fGtr .gtr 24 false false (.v 0) (.v 1))) k)
 (zCond (.l 0) (zSeq (zReg fun k => (zV 4 (vMv (.k (.int .i64 1)))) k)
 zRet) zSkip))
 (zSeq (zReg fun k => (zV 4 (vMv (.k (.int .i64 0)))) k)
 zRet)))))))), [.tmp (.v 4)]⟩
theorem G25_ok (fn : Nat → Option Func) (pu : Nat → Bool) (pr : Nat → List AV → Option (Heap → Option (Eff × Acc))) : ZOk ⟨Tryz.tyT, fn, pu, pr⟩ npT F25 (G25 ⟨Tryz.tyT, fn, pu, pr⟩) := ⟨by kernel_rfl, by kernel_rfl, by kernel_rfl, fun cy Y k => by kernel_rfl⟩
noncomputable def F28 : FFn := cF LV 0 [0, 1, 3, 2, 4] Tryz.f28
noncomputable def G28 (E : Env) : ZFn := ⟨20, [0, 1, 3, 2, 4], fun cy Y fuel =>
 (zSeq (zReg fun k => (zStep E (cy Y) ⟨.box 37 (.v 0), (.var 3), none, false, 0, (some 0)⟩) ((zStep E (cy Y) ⟨.box 3 (.v 1), (.var 2), none, false, 1, (some 1)⟩) ((zV 4 (vMv (.k (.bool false)))) k)))
 (zSeq (zSeq (zDreg 1 fun n0 k => (zLD B14 0 1 false (.v 2)) ((zPD (vInt E fEql .eql 3 false true (.l 0) (.k (.int .i64 0)))) ((zGD (.l 0) false .push (zPD (vFieldAddr 0 (.v 3)))) ((zGD (.l 1) false .push (zLD B14 4 1 false (.l 0))) ((zGD (.l 2) false .push (zCallD (cy Y) B14 5 50 [(.l 0)] .push)) ((zGD (.l 3) false .push (zPD (vFieldAddr 1 (.v 3)))) ((zGD (.l 4) false .push (zLD B14 7 1 false (.l 0))) ((zGD (.l 5) false .push (zPD (vLenL (.l 0)))) ((zGD (.l 6) false .push (zPD (vInt E fNeq .neq 3 false false (.l 3) (.l 0)))) ((zPD (vPick (.l 7) (.k (.bool true)) (.l 0))) k))))))))))
 (zCond (.l 0) (zSeq (zReg fun k => (zV 4 (vMv (.k (.bool false)))) k)
 zRet) zSkip))
 (zSeq (zReg fun k => (zP (vFieldAddr 1 (.v 3))) ((zL 1 false (.l 0)) ((zStep E (cy Y) ⟨.mkFunc 52 [(.v 2)], .push, none, false, 2, none⟩) ((zCall (cy Y) 51 [(.l 1), (.l 0)] .push) ((zV 4 (vMv (.l 0))) k)))))
 zRet))), [.tmp (.v 4)]⟩
theorem G28_ok (fn : Nat → Option Func) (pu : Nat → Bool) (pr : Nat → List AV → Option (Heap → Option (Eff × Acc))) : ZOk ⟨Tryz.tyT, fn, pu, pr⟩ npT F28 (G28 ⟨Tryz.tyT, fn, pu, pr⟩) := ⟨by kernel_rfl, by kernel_rfl, by kernel_rfl, fun cy Y k => by kernel_rfl⟩
noncomputable def F29 : FFn := cF LV 0 [0, 1, 4] Tryz.f29
noncomputable def G29 (E : Env) : ZFn := ⟨9, [0, 1, 4], fun cy Y fuel =>
 (zSeq (zReg fun k => (zV 2 (vMv (.k (.bool false)))) k)
 (zSeq (zReg fun k => (zCall (cy Y) 53 [(.v 0), (.v 1)] .push) ((zP (vInt E (fGen .geq) .geq 3 false true (.l 0) (.k (.int .i64 0)))) ((zV 2 (vMv (.l 0))) k)))
 zRet)), [.tmp (.v 2)]⟩
theorem G29_ok (fn : Nat → Option Func) (pu : Nat → Bool) (pr : Nat → List AV → Option (Heap → Option (Eff × Acc))) : ZOk ⟨Tryz.tyT, fn, pu, pr⟩ npT F29 (G29 ⟨Tryz.tyT, fn, pu, pr⟩) := ⟨by kernel_rfl, by kernel_rfl, by kernel_rfl, fun cy Y k => by kernel_rfl⟩
noncomputable def F30 : FFn := cF LV 0 [0, 2] Tryz.f30
noncomputable def G30 (E : Env) : ZFn := ⟨6, [0, 2], fun cy Y fuel =>
 (zSeq (zReg fun k => (zV 1 (vMv (.k (.bool false)))) k)
 (zSeq (zReg fun k => (zP (vLenS (.v 0))) ((zP (vInt E fGtr .gtr 3 false true (.l 0) (.k (.int .i64 16)))) ((zV 1 (vMv (.l 0))) k)))
 zRet)), [.tmp (.v 1)]⟩
theorem G30_ok (fn : Nat → Option Func) (pu : Nat → Bool) (pr : Nat → List AV → Option (Heap → Option (Eff × Acc))) : ZOk ⟨Tryz.tyT, fn, pu, pr⟩ npT F30 (G30 ⟨Tryz.tyT, fn, pu, pr⟩) := ⟨by kernel_rfl, by kernel_rfl, by kernel_rfl, fun cy Y k => by kernel_rfl⟩
noncomputable def F31 : FFn := cF LV 0 [1, 5, 3, 0, 27, 6, 7, 4] Tryz.f31
noncomputable def G31 (E : Env) : ZFn := ⟨123, [1, 5, 3, 0, 27, 6, 7, 4], fun cy Y fuel =>
 (zSeq (zReg fun k => (zStep E (cy Y) ⟨.box 29 (.v 0), (.var 2), none, false, 0, (some 0)⟩) ((zV 7 (vMv (.k (.bool false)))) k))
 (zSeq (zReg fun k => (zV 1 (vMv (.k (.clo 54 [])))) k)
 (zSeq (zReg fun k => (zP (vFieldAddr 2 (.v 2))) ((zL 1 false (.l 0)) ((zP (vLenL (.l 0))) ((zP (vFieldAddr 3 (.v 2))) ((zL 1 false (.l 0)) ((zP (vLenL (.l 0))) ((zP (vFieldAddr 4 (.v 2))) ((zL 1 false (.l 0)) ((zP (vLenL (.l 0))) ((zStep E (cy Y) ⟨.callv (.v 1) [(.l 6), (.l 3), (.l 0)], .push, none, false, 10, (some 0)⟩) ((zStep E (cy Y) ⟨.alloc 93, (.var 5), none, false, 11, (some 1)⟩) ((zStep E (cy Y) ⟨.store 93 (.v 5) (.l 0), .none, none, false, 12, none⟩) k))))))))))))
 (zSeq (zReg fun k => (zP (vFieldAddr 0 (.v 2))) ((zL 1 false (.l 0)) ((zP (vInt E fEql .eql 24 false true (.l 0) (.k (.int .u64 0)))) ((zG (.l 0) true .push (zP (vFieldAddr 1 (.v 2)))) ((zG (.l 1) true .push (zL 1 false (.l 0))) ((zG (.l 2) true .push (zP (vInt E fEql .eql 24 false true (.l 0) (.k (.int .u64 0))))) ((zP (vPick (.l 3) (.l 0) (.k (.bool false)))) ((zV 6 (vMv (.l 0))) k))))))))
 (zSeq (zSeq (zReg fun k => (zV 4 (vMv (.v 3))) k)
 (zBlock 0 (zSeq (zReg fun k => (zP (vInt E fEql .eql 3 false true (.v 4) (.k (.int .i64 1)))) ((zP (vMv (.l 0))) k))
 (zCond (.l 0) (zSeq (zDreg 1 fun n0 k => (zPD (vFieldAddr 1 (.v 2))) ((zLD B15 1 1 false (.l 0)) ((zPD (vInt E fEql .eql 24 false true (.l 0) (.k (.int .u64 0)))) ((zGD (.l 0) true .push (zLD B15 4 3 true (.v 5))) ((zGD (.l 1) true .push (zPD (vMv (.v 1)))) ((zGD (.l 2) true .push (zStepD E (cy Y) B15 n0 ⟨.callv (.l 0) [(.k (.int .i64 0)), (.k (.int .i64 0)), (.k (.int .i64 0))], .push, none, false, 6, (some 0)⟩)) ((zGD (.l 3) true .push (zPD (vInt E fEql .eql 93 false false (.l 2) (.l 0)))) ((zPD (vPick (.l 4) (.l 0) (.k (.bool false)))) ((zVD 7 (vMv (.l 0))) k)))))))))
 zRet) (zSeq (zReg fun k => (zP (vInt E fEql .eql 3 false true (.v 4) (.k (.int .i64 2)))) ((zP (vMv (.l 0))) k))
 (zCond (.l 0) (zSeq (zDreg 1 fun n0 k => (zPD (vFieldAddr 0 (.v 2))) ((zLD B16 1 1 false (.l 0)) ((zPD (vInt E (fGen .leq) .leq 24 false true (.l 0) (.k (.int .u64 1)))) ((zGD (.l 0) true .push (zPD (vFieldAddr 1 (.v 2)))) ((zGD (.l 1) true .push (zLD B16 5 1 false (.l 0))) ((zGD (.l 2) true .push (zPD (vInt E fEql .eql 24 false true (.l 0) (.k (.int .u64 0))))) ((zPD (vPick (.l 3) (.l 0) (.k (.bool false)))) ((zGD (.l 0) true .push (zLD B16 9 3 true (.v 5))) ((zGD (.l 1) true .push (zPD (vMv (.v 1)))) ((zGD (.l 2) true .push (zStepD E (cy Y) B16 n0 ⟨.callv (.l 0) [(.k (.int .i64 0)), (.k (.int .i64 0)), (.k (.int .i64 0))], .push, none, false, 11, (some 0)⟩)) ((zGD (.l 3) true .push (zPD (vInt E fEql .eql 93 false false (.l 2) (.l 0)))) ((zPD (vPick (.l 4) (.l 0) (.k (.bool false)))) ((zVD 7 (vMv (.l 0))) k)))))))))))))
 zRet) (zSeq (zReg fun k => (zP (vInt E fEql .eql 3 false true (.v 4) (.k (.int .i64 3)))) ((zP (vMv (.l 0))) k))
 (zCond (.l 0) (zSeq (zDreg 1 fun n0 k => (zGD (.v 6) true .push (zLD B17 2 3 true (.v 5))) ((zGD (.v 6) true .push (zPD (vMv (.v 1)))) ((zGD (.v 6) true .push (zPD (vFieldAddr 2 (.v 2)))) ((zGD (.v 6) true .push (zLD B17 5 1 false (.l 0))) ((zGD (.v 6) true .push (zPD (vLenL (.l 0)))) ((zGD (.v 6) true .push (zStepD E (cy Y) B17 n0 ⟨.callv (.l 3) [(.l 0), (.k (.int .i64 0)), (.k (.int .i64 0))], .push, none, false, 7, (some 0)⟩)) ((zGD (.v 6) true .push (zPD (vInt E fEql .eql 93 false false (.l 5) (.l 0)))) ((zPD (vPick (.v 6) (.l 0) (.k (.bool false)))) ((zVD 7 (vMv (.l 0))) k)))))))))
 zRet) (zSeq (zReg fun k => (zP (vInt E fEql .eql 3 false true (.v 4) (.k (.int .i64 4)))) ((zP (vMv (.l 0))) k))
 (zCond (.l 0) (zSeq (zDreg 1 fun n0 k => (zGD (.v 6) true .push (zLD B18 2 3 true (.v 5))) ((zGD (.v 6) true .push (zPD (vMv (.v 1)))) ((zGD (.v 6) true .push (zPD (vFieldAddr 4 (.v 2)))) ((zGD (.v 6) true .push (zLD B18 5 1 false (.l 0))) ((zGD (.v 6) true .push (zPD (vLenL (.l 0)))) ((zGD (.v 6) true .push (zPD (vFieldAddr 2 (.v 2)))) ((zGD (.v 6) true .push (zLD B18 8 1 false (.l 0))) ((zGD (.v 6) true .push (zPD (vLenL (.l 0)))) ((zGD (.v 6) true .push (zStepD E (cy Y) B18 n0 ⟨.callv (.l 6) [(.l 3), (.k (.int .i64 0)), (.l 0)], .push, none, false, 10, (some 0)⟩)) ((zGD (.v 6) true .push (zPD (vInt E fEql .eql 93 false false (.l 8) (.l 0)))) ((zPD (vPick (.v 6) (.l 0) (.k (.bool false)))) ((zVD 7 (vMv (.l 0))) k))))))))))))
 zRet) (zSeq (zReg fun k => (zP (vInt E fEql .eql 3 false true (.v 4) (.k (.int .i64 5)))) ((zP (vMv (.l 0))) k))
 (zCond (.l 0) (zSeq (zDreg 1 fun n0 k => (zGD (.v 6) true .push (zLD B19 2 3 true (.v 5))) ((zGD (.v 6) true .push (zPD (vMv (.v 1)))) ((zGD (.v 6) true .push (zStepD E (cy Y) B19 n0 ⟨.callv (.l 0) [(.k (.int .i64 0)), (.k (.int .i64 0)), (.k (.int .i64 2))], .push, none, false, 4, (some 0)⟩)) ((zGD (.v 6) true .push (zPD (vInt E fEql .eql 93 false false (.l 2) (.l 0)))) ((zPD (vPick (.v 6) (.l 0) (.k (.bool false)))) ((zVD 7 (vMv (.l 0))) k))))))
 zRet) (zSeq (zReg fun k => (zP (vInt E fEql .eql 3 false true (.v 4) (.k (.int .i64 6)))) ((zP (vMv (.l 0))) k))
 (zCond (.l 0) (zSeq (zReg fun k => (zStep E (cy Y) ⟨.build 37 [(0, (.v 3))], .push, none, false, 1, none⟩) ((zL 5 true (.v 2)) ((zCall (cy Y) 55 [(.l 1), (.l 0)] .push) ((zV 7 (vMv (.l 0))) k))))
 zRet) (zSeq (zReg fun k => (zP (vInt E fEql .eql 3 false true (.v 4) (.k (.int .i64 7)))) ((zP (vMv (.l 0))) k))
 (zCond (.l 0) (zSeq (zDreg 1 fun n0 k => (zGD (.v 6) true .push (zLD B20 2 3 true (.v 5))) ((zGD (.v 6) true .push (zPD (vMv (.v 1)))) ((zGD (.v 6) true .push (zPD (vFieldAddr 3 (.v 2)))) ((zGD (.v 6) true .push (zLD B20 5 1 false (.l 0))) ((zGD (.v 6) true .push (zPD (vLenL (.l 0)))) ((zGD (.v 6) true .push (zStepD E (cy Y) B20 n0 ⟨.most false [(.l 0), (.k (.int .i64 1))], .push, none, false, 7, none⟩)) ((zGD (.v 6) true .push (zStepD E (cy Y) B20 n0 ⟨.callv (.l 4) [(.k (.int .i64 0)), (.l 0), (.k (.int .i64 0))], .push, none, false, 8, (some 0)⟩)) ((zGD (.v 6) true .push (zPD (vInt E fEql .eql 93 false false (.l 6) (.l 0)))) ((zPD (vPick (.v 6) (.l 0) (.k (.bool false)))) ((zVD 7 (vMv (.l 0))) k))))))))))
 zRet) zSkip))))))))))))))))
 (zSeq (zDreg 1 fun n0 k => (zGD (.v 6) true .push (zLD B18 2 3 true (.v 5))) ((zGD (.v 6) true .push (zPD (vMv (.v 1)))) ((zGD (.v 6) true .push (zPD (vFieldAddr 4 (.v 2)))) ((zGD (.v 6) true .push (zLD B18 5 1 false (.l 0))) ((zGD (.v 6) true .push (zPD (vLenL (.l 0)))) ((zGD (.v 6) true .push (zPD (vFieldAddr 3 (.v 2)))) ((zGD (.v 6) true .push (zLD B18 8 1 false (.l 0))) ((zGD (.v 6) true .push (zPD (vLenL (.l 0)))) ((zGD (.v 6) true .push (zStepD E (cy Y) B18 n0 ⟨.callv (.l 6) [(.k (.int .i64 0)), (.l 3), (.l 0)], .push, none, false, 10, (some 0)⟩)) ((zGD (.v 6) true .push (zPD (vInt E fEql .eql 93 false false (.l 8) (.l 0)))) ((zPD (vPick (.v 6) (.l 0) (.k (.bool false)))) ((zVD 7 (vMv (.l 0))) k))))))))))))
 zRet)))))), [.tmp (.v 7)]⟩
theorem G31_ok (fn : Nat → Option Func) (pu : Nat → Bool) (pr : Nat → List AV → Option (Heap → Option (Eff × Acc))) : ZOk ⟨Tryz.tyT, fn, pu, pr⟩ npT F31 (G31 ⟨Tryz.tyT, fn, pu, pr⟩) := ⟨by kernel_rfl, by kernel_rfl, by kernel_rfl, fun cy Y k => by kernel_rfl⟩
noncomputable def F32 : FFn := cF LV 0 [0, 1, 4] Tryz.f32
noncomputable def G32 (E : Env) : ZFn := ⟨9, [0, 1, 4], fun cy Y fuel =>
 (zSeq (zReg fun k => (zV 2 (vMv (.k (.bool false)))) k)
 (zSeq (zReg fun k => (zCall (cy Y) 56 [(.v 0), (.v 1)] .push) ((zP (vInt E (fGen .geq) .geq 3 false true (.l 0) (.k (.int .i64 0)))) ((zV 2 (vMv (.l 0))) k)))
 zRet)), [.tmp (.v 2)]⟩
theorem G32_ok (fn : Nat → Option Func) (pu : Nat → Bool) (pr : Nat → List AV → Option (Heap → Option (Eff × Acc))) : ZOk ⟨Tryz.tyT, fn, pu, pr⟩ npT F32 (G32 ⟨Tryz.tyT, fn, pu, pr⟩) := ⟨by kernel_rfl, by kernel_rfl, by kernel_rfl, fun cy Y k => by kernel_rfl⟩
noncomputable def F33 : FFn := cF LV 0 [0, 2] Tryz.f33
noncomputable def G33 (E : Env) : ZFn := ⟨6, [0, 2], fun cy Y fuel =>
 (zSeq (zReg fun k => (zV 1 (vMv (.k (.bool false)))) k)
 (zSeq (zReg fun k => (zCall (cy Y) 19 [(.v 0)] .push) ((zP (vNot (.l 0))) ((zV 1 (vMv (.l 0))) k)))
 zRet)), [.tmp (.v 1)]⟩
theorem G33_ok (fn : Nat → Option Func) (pu : Nat → Bool) (pr : Nat → List AV → Option (Heap → Option (Eff × Acc))) : ZOk ⟨Tryz.tyT, fn, pu, pr⟩ npT F33 (G33 ⟨Tryz.tyT, fn, pu, pr⟩) := ⟨by kernel_rfl, by kernel_rfl, by kernel_rfl, fun cy Y k => by kernel_rfl⟩
noncomputable def F34 : FFn := cF LV 0 [0, 2] Tryz.f34
noncomputable def G34 (E : Env) : ZFn := ⟨9, [0, 2], fun cy Y fuel =>
 (zSeq (zReg fun k => (zV 1 (vMv (.k (.sl 0 [] true)))) k)
 (zSeq (zReg fun k => (zP (vMv (.v 0))) ((zStep E (cy Y) ⟨.call 57 [(.l 0)], .push, none, false, 1, (some 0)⟩) ((zV 0 (vMv (.l 0))) k)))
 (zSeq (zReg fun k => (zCall (cy Y) 58 [(.v 0)] .push) k)
 (zSeq (zReg fun k => (zCall (cy Y) 59 [(.v 0)] .push) ((zV 1 (vMv (.l 0))) k))
 zRet)))), [.tmp (.v 1)]⟩
theorem G34_ok (fn : Nat → Option Func) (pu : Nat → Bool) (pr : Nat → List AV → Option (Heap → Option (Eff × Acc))) : ZOk ⟨Tryz.tyT, fn, pu, pr⟩ npT F34 (G34 ⟨Tryz.tyT, fn, pu, pr⟩) := ⟨by kernel_rfl, by kernel_rfl, by kernel_rfl, fun cy Y k => by kernel_rfl⟩
noncomputable def F35 : FFn := cF LV 0 [0, 1, 2, 3, 6, 7, 4, 5] Tryz.f35
noncomputable def G35 (E : Env) : ZFn := ⟨18, [0, 1, 2, 3, 6, 7, 4, 5], fun cy Y fuel =>
 (zSeq (zReg fun k => (zStep E (cy Y) ⟨.box 37 (.v 0), (.var 2), none, false, 0, (some 0)⟩) ((zStep E (cy Y) ⟨.box 29 (.v 1), (.var 3), none, false, 1, (some 1)⟩) ((zStep E (cy Y) ⟨.alloc 29, (.var 6), none, false, 2, (some 2)⟩) ((zV 7 (vMv (.k .nilIface))) k))))
 (zSeq (zReg fun k => (zStep E (cy Y) ⟨.alloc 29, (.var 4), none, false, 0, (some 0)⟩) k)
 (zSeq (zReg fun k => (zStep E (cy Y) ⟨.mkFunc 60 [(.v 2), (.v 3)], .push, none, false, 0, none⟩) ((zV 5 (vMv (.l 0))) k))
 (zSeq (zDreg 2 fun n0 k => (zLD B21 0 2 true (.v 2)) ((zLD B21 1 5 true (.v 4)) ((zPD (vFieldAddr 4 (.v 3))) ((zLD B21 3 1 false (.l 0)) ((zCallD (cy Y) B21 5 63 [(.l 0), (.v 5)] .push) ((zCallD (cy Y) B21 6 62 [(.l 4), (.l 3), (.l 0)] .push) ((zPD (vExtract 0 (.l 0))) ((zPD (vExtract 1 (.l 1))) ((zStepD E (cy Y) B21 n0 ⟨.store 29 (.v 6) (.l 1), .none, none, false, 9, none⟩) ((zVD 7 (vMv (.l 0))) k))))))))))
 zRet)))), [.cell (.v 6) 29, .tmp (.v 7)]⟩
theorem G35_ok (fn : Nat → Option Func) (pu : Nat → Bool) (pr : Nat → List AV → Option (Heap → Option (Eff × Acc))) : ZOk ⟨Tryz.tyT, fn, pu, pr⟩ npT F35 (G35 ⟨Tryz.tyT, fn, pu, pr⟩) := ⟨by kernel_rfl, by kernel_rfl, by kernel_rfl, fun cy Y k => by kernel_rfl⟩
noncomputable def F38 : FFn := cF LV 0 [0, 1, 3, 2, 6, 4, 5] Tryz.f38
noncomputable def G38 (E : Env) : ZFn := ⟨17, [0, 1, 3, 2, 6, 4, 5], fun cy Y fuel =>
 (zSeq (zReg fun k => (zStep E (cy Y) ⟨.box 37 (.v 0), (.var 3), none, false, 0, (some 0)⟩) ((zStep E (cy Y) ⟨.box 29 (.v 1), (.var 2), none, false, 1, (some 1)⟩) ((zStep E (cy Y) ⟨.alloc 29, (.var 5), none, false, 2, (some 2)⟩) ((zV 6 (vMv (.k .nilIface))) k))))
 (zSeq (zReg fun k => (zStep E (cy Y) ⟨.mkFunc 65 [(.v 2), (.v 3)], .push, none, false, 0, none⟩) ((zV 4 (vMv (.l 0))) k))
 (zSeq (zDreg 2 fun n0 k => (zLD B21 0 2 true (.v 3)) ((zStepD E (cy Y) B21 n0 ⟨.build 29 [], .push, none, false, 1, none⟩) ((zPD (vFieldAddr 4 (.v 2))) ((zLD B21 3 1 false (.l 0)) ((zCallD (cy Y) B21 5 63 [(.l 0), (.v 4)] .push) ((zCallD (cy Y) B21 6 62 [(.l 4), (.l 3), (.l 0)] .push) ((zPD (vExtract 0 (.l 0))) ((zPD (vExtract 1 (.l 1))) ((zStepD E (cy Y) B21 n0 ⟨.store 29 (.v 5) (.l 1), .none, none, false, 9, none⟩) ((zVD 6 (vMv (.l 0))) k))))))))))
 zRet))), [.cell (.v 5) 29, .tmp (.v 6)]⟩
theorem G38_ok (fn : Nat → Option Func) (pu : Nat → Bool) (pr : Nat → List AV → Option (Heap → Option (Eff × Acc))) : ZOk ⟨Tryz.tyT, fn, pu, pr⟩ npT F38 (G38 ⟨Tryz.tyT, fn, pu, pr⟩) := ⟨by kernel_rfl, by kernel_rfl, by kernel_rfl, fun cy Y k => by kernel_rfl⟩
noncomputable def F39 : FFn := cF LV 0 [0, 1, 2, 5, 4] Tryz.f39
noncomputable def G39 (E : Env) : ZFn := ⟨33, [0, 1, 2, 5, 4], fun cy Y fuel =>
 (zSeq (zReg fun k => (zStep E (cy Y) ⟨.box 37 (.v 0), (.var 2), none, false, 0, (some 0)⟩) ((zV 4 (vMv (.k (.bool false)))) k))
 (zSeq (zSeq (zDreg 1 fun n0 k => (zPD (vInt E (fGen .leq) .leq 3 false true (.v 1) (.k (.int .i64 0)))) ((zGD (.l 0) false .push (zPD (vFieldAddr 1 (.v 2)))) ((zGD (.l 1) false .push (zLD B14 4 1 false (.l 0))) ((zGD (.l 2) false .push (zPD (vLenL (.l 0)))) ((zGD (.l 3) false .push (zPD (vFieldAddr 0 (.v 2)))) ((zGD (.l 4) false .push (zLD B14 7 1 false (.l 0))) ((zGD (.l 5) false .push (zCallD (cy Y) B14 8 66 [(.l 0)] .push)) ((zGD (.l 6) false .push (zPD (vInt E fNeq .neq 3 false false (.l 3) (.l 0)))) ((zPD (vPick (.l 7) (.k (.bool true)) (.l 0))) k)))))))))
 (zCond (.l 0) (zSeq (zReg fun k => (zV 4 (vMv (.k (.bool false)))) k)
 zRet) zSkip))
 (zSeq (zSeq (zReg fun k => (zV 3 (vMv (.k (.int .i64 0)))) k)
 (zBlock 0 (zLoop fuel (zSeq (zSeq (zReg fun k => (zP (vFieldAddr 1 (.v 2))) ((zL 1 false (.l 0)) ((zP (vLenL (.l 0))) ((zP (vInt E fLss .lss 3 false false (.v 3) (.l 0))) k))))
 (zCond (.l 0) zSkip (zExit 0)))
 (zSeq (zBlock 1 (zSeq (zReg fun k => (zP (vFieldAddr 1 (.v 2))) ((zL 1 false (.l 0)) ((zP (vIndexAddr 2 (.l 0) (.v 3))) ((zL 2 true (.l 0)) ((zP (vInt E fSub .sub 3 false true (.v 1) (.k (.int .i64 1)))) ((zCall (cy Y) 39 [(.l 1), (.l 0)] .push) ((zP (vNot (.l 0))) k)))))))
 (zCond (.l 0) (zSeq (zReg fun k => (zV 4 (vMv (.k (.bool false)))) k)
 zRet) zSkip)))
 (zReg fun k => (zP (vMv (.v 3))) ((zP (vInt E fAdd .add 3 false true (.l 0) (.k (.int .i64 1)))) ((zV 3 (vMv (.l 0))) k))))))))
 (zSeq (zReg fun k => (zV 4 (vMv (.k (.bool true)))) k)
 zRet)))), [.tmp (.v 4)]⟩
theorem G39_ok (fn : Nat → Option Func) (pu : Nat → Bool) (pr : Nat → List AV → Option (Heap → Option (Eff × Acc))) : ZOk ⟨Tryz.tyT, fn, pu, pr⟩ npT F39 (G39 ⟨Tryz.tyT, fn, pu, pr⟩) := ⟨by kernel_rfl, by kernel_rfl, by kernel_rfl, fun cy Y k => by kernel_rfl⟩
noncomputable def F40 : FFn := cF LV 0 [0, 1, 2, 6, 3, 4] Tryz.f40
noncomputable def G40 (E : Env) : ZFn := ⟨116, [0, 1, 2, 6, 3, 4], fun cy Y fuel =>
 (zSeq (zReg fun k => (zStep E (cy Y) ⟨.box 37 (.v 0), (.var 2), none, false, 0, (some 0)⟩) ((zStep E (cy Y) ⟨.box 29 (.v 1), (.var 4), none, false, 1, (some 1)⟩) ((zV 5 (vMv (.k (.bool false)))) k)))
 (zSeq (zSeq (zReg fun k => (zP (vFieldAddr 0 (.v 2))) ((zDstW (.var 3) (wLoad 1 false (.l 0))) k))
 (zBlock 0 (zSeq (zReg fun k => (zP (vInt E fEql .eql 3 false true (.v 3) (.k (.int .i64 1)))) ((zP (vMv (.l 0))) k))
 (zCond (.l 0) (zSeq (zReg fun k => (zL 5 true (.v 4)) ((zCall (cy Y) 67 [(.l 0), (.k (.bool true)), (.k (.bool false)), (.k (.bool false)), (.k (.bool false)), (.k (.bool false))] .push) ((zV 5 (vMv (.l 0))) k)))
 zRet) (zSeq (zReg fun k => (zP (vInt E fEql .eql 3 false true (.v 3) (.k (.int .i64 2)))) ((zP (vMv (.l 0))) k))
 (zCond (.l 0) (zSeq (zReg fun k => (zL 5 true (.v 4)) ((zCall (cy Y) 67 [(.l 0), (.k (.bool true)), (.k (.bool false)), (.k (.bool false)), (.k (.bool false)), (.k (.bool false))] .push) ((zG (.l 0) true .push (zP (vFieldAddr 0 (.v 4)))) ((zG (.l 1) true .push (zL 1 false (.l 0))) ((zG (.l 2) true .push (zP (vInt E (fGen .leq) .leq 24 false true (.l 0) (.k (.int .u64 1))))) ((zP (vPick (.l 3) (.l 0) (.k (.bool false)))) ((zV 5 (vMv (.l 0))) k)))))))
 zRet) (zSeq (zReg fun k => (zP (vInt E fEql .eql 3 false true (.v 3) (.k (.int .i64 3)))) ((zP (vMv (.l 0))) k))
 (zCond (.l 0) (zSeq (zReg fun k => (zL 5 true (.v 4)) ((zCall (cy Y) 67 [(.l 0), (.k (.bool false)), (.k (.bool false)), (.k (.bool true)), (.k (.bool false)), (.k (.bool false))] .push) ((zG (.l 0) true .push (zP (vFieldAddr 2 (.v 4)))) ((zG (.l 1) true .push (zL 1 false (.l 0))) ((zG (.l 2) true .push (zCall (cy Y) 68 [(.l 0)] .push)) ((zP (vPick (.l 3) (.l 0) (.k (.bool false)))) ((zV 5 (vMv (.l 0))) k)))))))
 zRet) (zSeq (zReg fun k => (zP (vInt E fEql .eql 3 false true (.v 3) (.k (.int .i64 4)))) ((zP (vMv (.l 0))) k))
 (zCond (.l 0) (zSeq (zReg fun k => (zL 5 true (.v 4)) ((zCall (cy Y) 67 [(.l 0), (.k (.bool false)), (.k (.bool false)), (.k (.bool true)), (.k (.bool false)), (.k (.bool true))] .push) ((zG (.l 0) true .push (zP (vFieldAddr 2 (.v 4)))) ((zG (.l 1) true .push (zL 1 false (.l 0))) ((zG (.l 2) true .push (zCall (cy Y) 68 [(.l 0)] .push)) ((zP (vPick (.l 3) (.l 0) (.k (.bool false)))) ((zG (.l 0) true .push (zP (vFieldAddr 2 (.v 4)))) ((zG (.l 1) true .push (zL 1 false (.l 0))) ((zG (.l 2) true .push (zP (vLenL (.l 0)))) ((zG (.l 3) true .push (zP (vFieldAddr 4 (.v 4)))) ((zG (.l 4) true .push (zL 1 false (.l 0))) ((zG (.l 5) true .push (zP (vLenL (.l 0)))) ((zG (.l 6) true .push (zP (vInt E fEql .eql 3 false false (.l 3) (.l 0)))) ((zP (vPick (.l 7) (.l 0) (.k (.bool false)))) ((zV 5 (vMv (.l 0))) k)))))))))))))))
 zRet) (zSeq (zReg fun k => (zP (vInt E fEql .eql 3 false true (.v 3) (.k (.int .i64 5)))) ((zP (vMv (.l 0))) k))
 (zCond (.l 0) (zSeq (zReg fun k => (zL 5 true (.v 4)) ((zCall (cy Y) 67 [(.l 0), (.k (.bool false)), (.k (.bool false)), (.k (.bool false)), (.k (.bool false)), (.k (.bool true))] .push) ((zG (.l 0) true .push (zP (vFieldAddr 4 (.v 4)))) ((zG (.l 1) true .push (zL 1 false (.l 0))) ((zG (.l 2) true .push (zP (vLenL (.l 0)))) ((zG (.l 3) true .push (zP (vInt E fEql .eql 3 false true (.l 0) (.k (.int .i64 2))))) ((zP (vPick (.l 4) (.l 0) (.k (.bool false)))) ((zV 5 (vMv (.l 0))) k))))))))
 zRet) (zSeq (zReg fun k => (zP (vInt E fEql .eql 3 false true (.v 3) (.k (.int .i64 6)))) ((zP (vMv (.l 0))) k))
 (zCond (.l 0) (zSeq (zSeq (zReg fun k => (zP (vFieldAddr 2 (.v 4))) ((zL 1 false (.l 0)) ((zP (vLenL (.l 0))) ((zP (vInt E fEql .eql 3 false true (.l 0) (.k (.int .i64 0)))) k))))
 (zCond (.l 0) (zSeq (zReg fun k => (zL 5 true (.v 4)) ((zCall (cy Y) 67 [(.l 0), (.k (.bool false)), (.k (.bool false)), (.k (.bool false)), (.k (.bool false)), (.k (.bool false))] .push) ((zV 5 (vMv (.l 0))) k)))
 zRet) zSkip))
 (zSeq (zReg fun k => (zL 5 true (.v 4)) ((zCall (cy Y) 67 [(.l 0), (.k (.bool true)), (.k (.bool true)), (.k (.bool true)), (.k (.bool false)), (.k (.bool false))] .push) ((zG (.l 0) true .push (zP (vFieldAddr 2 (.v 4)))) ((zG (.l 1) true .push (zL 1 false (.l 0))) ((zG (.l 2) true .push (zP (vLenL (.l 0)))) ((zG (.l 3) true .push (zP (vInt E fEql .eql 3 false true (.l 0) (.k (.int .i64 1))))) ((zP (vPick (.l 4) (.l 0) (.k (.bool false)))) ((zG (.l 0) true .push (zP (vFieldAddr 2 (.v 4)))) ((zG (.l 1) true .push (zL 1 false (.l 0))) ((zG (.l 2) true .push (zCall (cy Y) 68 [(.l 0)] .push)) ((zP (vPick (.l 3) (.l 0) (.k (.bool false)))) ((zG (.l 0) true .push (zP (vFieldAddr 0 (.v 4)))) ((zG (.l 1) true .push (zL 1 false (.l 0))) ((zG (.l 2) true .push (zP (vInt E fNeq .neq 24 false true (.l 0) (.k (.int .u64 0))))) ((zG (.l 3) true .push (zP (vMv (.l 0)))) ((zG (.l 0) false .push (zP (vFieldAddr 1 (.v 4)))) ((zG (.l 1) false .push (zL 1 false (.l 0))) ((zG (.l 2) false .push (zP (vInt E fNeq .neq 24 false true (.l 0) (.k (.int .u64 0))))) ((zG (.l 7) true .push (zP (vPick (.l 3) (.k (.bool true)) (.l 0)))) ((zG (.l 8) true .push (zP (vMv (.l 0)))) ((zG (.l 0) false .push (zP (vFieldAddr 2 (.v 4)))) ((zG (.l 1) false .push (zL 1 false (.l 0))) ((zG (.l 2) false .push (zP (vIndexAddr 1 (.l 0) (.k (.int .i64 0))))) ((zG (.l 3) false .push (zL 1 false (.l 0))) ((zG (.l 4) false .push (zP (vInt E fNeq .neq 9 false true (.l 0) (.k (.str []))))) ((zG (.l 14) true .push (zP (vPick (.l 5) (.k (.bool true)) (.l 0)))) ((zP (vPick (.l 15) (.l 0) (.k (.bool false)))) ((zV 5 (vMv (.l 0))) k))))))))))))))))))))))))))))
 zRet)) (zSeq (zReg fun k => (zP (vInt E fEql .eql 3 false true (.v 3) (.k (.int .i64 7)))) ((zP (vMv (.l 0))) k))
 (zCond (.l 0) (zSeq (zReg fun k => (zL 5 true (.v 4)) ((zCall (cy Y) 67 [(.l 0), (.k (.bool false)), (.k (.bool false)), (.k (.bool false)), (.k (.bool true)), (.k (.bool false))] .push) ((zG (.l 0) true .push (zP (vFieldAddr 3 (.v 4)))) ((zG (.l 1) true .push (zL 1 false (.l 0))) ((zG (.l 2) true .push (zP (vLenL (.l 0)))) ((zG (.l 3) true .push (zP (vInt E (fGen .leq) .leq 3 false true (.l 0) (.k (.int .i64 1))))) ((zP (vPick (.l 4) (.l 0) (.k (.bool false)))) ((zV 5 (vMv (.l 0))) k))))))))
 zRet) zSkip))))))))))))))))
 (zSeq (zReg fun k => (zL 5 true (.v 4)) ((zCall (cy Y) 67 [(.l 0), (.k (.bool false)), (.k (.bool false)), (.k (.bool false)), (.k (.bool true)), (.k (.bool true))] .push) ((zG (.l 0) true .push (zP (vFieldAddr 3 (.v 4)))) ((zG (.l 1) true .push (zL 1 false (.l 0))) ((zG (.l 2) true .push (zP (vLenL (.l 0)))) ((zG (.l 3) true .push (zP (vFieldAddr 4 (.v 4)))) ((zG (.l 4) true .push (zL 1 false (.l 0))) ((zG (.l 5) true .push (zP (vLenL (.l 0)))) ((zG (.l 6) true .push (zP (vInt E fEql .eql 3 false false (.l 3) (.l 0)))) ((zP (vPick (.l 7) (.l 0) (.k (.bool false)))) ((zV 5 (vMv (.l 0))) k)))))))))))
 zRet))), [.tmp (.v 5)]⟩
theorem G40_ok (fn : Nat → Option Func) (pu : Nat → Bool) (pr : Nat → List AV → Option (Heap → Option (Eff × Acc))) : ZOk ⟨Tryz.tyT, fn, pu, pr⟩ npT F40 (G40 ⟨Tryz.tyT, fn, pu, pr⟩) := ⟨by kernel_rfl, by kernel_rfl, by kernel_rfl, fun cy Y k => by kernel_rfl⟩
noncomputable def F41 : FFn := cF LV 0 [3, 0, 2] Tryz.f41
noncomputable def G41 (E : Env) : ZFn := ⟨20, [3, 0, 2], fun cy Y fuel =>
 (zSeq (zReg fun k => (zV 2 (vMv (.k (.bool false)))) k)
 (zSeq (zSeq (zReg fun k => (zV 0 (vMv (.k (.int .i64 1)))) k)
 (zBlock 0 (zLoop fuel (zSeq (zSeq (zReg fun k => (zP (vLenL (.v 1))) ((zP (vInt E fLss .lss 3 false false (.v 0) (.l 0))) k))
 (zCond (.l 0) zSkip (zExit 0)))
 (zSeq (zBlock 1 (zSeq (zDreg 0 fun n0 k => (zPD (vInt E fSub .sub 3 false true (.v 0) (.k (.int .i64 1)))) ((zPD (vIndexAddr 1 (.v 1) (.l 0))) ((zLD B22 4 1 false (.l 0)) ((zPD (vIndexAddr 1 (.v 1) (.v 0))) ((zLD B22 8 1 false (.l 0)) ((zPD (vInt E (fGen .geq) .geq 9 false false (.l 2) (.l 0))) k))))))
 (zCond (.l 0) (zSeq (zReg fun k => (zV 2 (vMv (.k (.bool false)))) k)
 zRet) zSkip)))
 (zReg fun k => (zP (vMv (.v 0))) ((zP (vInt E fAdd .add 3 false true (.l 0) (.k (.int .i64 1)))) ((zV 0 (vMv (.l 0))) k))))))))
 (zSeq (zReg fun k => (zV 2 (vMv (.k (.bool true)))) k)
 zRet))), [.tmp (.v 2)]⟩
theorem G41_ok (fn : Nat → Option Func) (pu : Nat → Bool) (pr : Nat → List AV → Option (Heap → Option (Eff × Acc))) : ZOk ⟨Tryz.tyT, fn, pu, pr⟩ npT F41 (G41 ⟨Tryz.tyT, fn, pu, pr⟩) := ⟨by kernel_rfl, by kernel_rfl, by kernel_rfl, fun cy Y k => by kernel_rfl⟩
noncomputable def F43 : FFn := cF LV 0 [3, 0, 2] Tryz.f43
noncomputable def G43 (E : Env) : ZFn := ⟨53, [3, 0, 2], fun cy Y fuel =>
 (zSeq (zReg fun k => (zV 2 (vMv (.k (.bool false)))) k)
 (zSeq (zSeq (zReg fun k => (zV 0 (vMv (.k (.int .i64 0)))) k)
 (zBlock 0 (zLoop fuel (zSeq (zSeq (zReg fun k => (zP (vLenL (.v 1))) ((zP (vInt E fLss .lss 3 false false (.v 0) (.l 0))) k))
 (zCond (.l 0) zSkip (zExit 0)))
 (zSeq (zBlock 1 (zSeq (zDreg 0 fun n0 k => (zPD (vIndexAddr 2 (.v 1) (.v 0))) ((zPD (vFieldAddr 0 (.l 0))) ((zLD B23 4 1 false (.l 0)) ((zPD (vInt E fLss .lss 3 false true (.l 0) (.k (.int .i64 0)))) ((zGD (.l 0) false .push (zPD (vMv (.v 1)))) ((zGD (.l 1) false .push (zPD (vMv (.v 0)))) ((zGD (.l 2) false .push (zPD (vIndexAddr 2 (.l 1) (.l 0)))) ((zGD (.l 3) false .push (zPD (vFieldAddr 0 (.l 0)))) ((zGD (.l 4) false .push (zLD B23 11 1 false (.l 0))) ((zGD (.l 5) false .push (zPD (vInt E fGtr .gtr 3 false true (.l 0) (.k (.int .i64 1000000))))) ((zPD (vPick (.l 6) (.k (.bool true)) (.l 0))) ((zGD (.l 0) false .push (zPD (vMv (.v 1)))) ((zGD (.l 1) false .push (zPD (vMv (.v 0)))) ((zGD (.l 2) false .push (zPD (vIndexAddr 2 (.l 1) (.l 0)))) ((zGD (.l 3) false .push (zPD (vFieldAddr 1 (.l 0)))) ((zGD (.l 4) false .push (zLD B23 19 1 false (.l 0))) ((zGD (.l 5) false .push (zPD (vInt E fEql .eql 24 false true (.l 0) (.k (.int .u64 0))))) ((zPD (vPick (.l 6) (.k (.bool true)) (.l 0))) ((zGD (.l 0) false .push (zPD (vMv (.v 0)))) ((zGD (.l 1) false .push (zPD (vInt E fGtr .gtr 3 false true (.l 0) (.k (.int .i64 0))))) ((zGD (.l 2) false .push (zPD (vMv (.l 0)))) ((zGD (.l 0) true .push (zPD (vMv (.v 1)))) ((zGD (.l 1) true .push (zPD (vMv (.v 0)))) ((zGD (.l 2) true .push (zPD (vInt E fSub .sub 3 false true (.l 0) (.k (.int .i64 1))))) ((zGD (.l 3) true .push (zPD (vIndexAddr 2 (.l 2) (.l 0)))) ((zGD (.l 4) true .push (zPD (vFieldAddr 0 (.l 0)))) ((zGD (.l 5) true .push (zLD B23 31 1 false (.l 0))) ((zGD (.l 6) true .push (zPD (vMv (.v 1)))) ((zGD (.l 7) true .push (zPD (vMv (.v 0)))) ((zGD (.l 8) true .push (zPD (vIndexAddr 2 (.l 1) (.l 0)))) ((zGD (.l 9) true .push (zPD (vFieldAddr 0 (.l 0)))) ((zGD (.l 10) true .push (zLD B23 36 1 false (.l 0))) ((zGD (.l 11) true .push (zPD (vInt E (fGen .geq) .geq 3 false false (.l 5) (.l 0)))) ((zGD (.l 15) false .push (zPD (vPick (.l 12) (.l 0) (.k (.bool false))))) ((zPD (vPick (.l 16) (.k (.bool true)) (.l 0))) k)))))))))))))))))))))))))))))))))))
 (zCond (.l 0) (zSeq (zReg fun k => (zV 2 (vMv (.k (.bool false)))) k)
 zRet) zSkip)))
 (zReg fun k => (zP (vMv (.v 0))) ((zP (vInt E fAdd .add 3 false true (.l 0) (.k (.int .i64 1)))) ((zV 0 (vMv (.l 0))) k))))))))
 (zSeq (zReg fun k => (zP (vLenL (.v 1))) ((zP (vInt E (fGen .leq) .leq 3 false true (.l 0) (.k (.int .i64 40)))) ((zV 2 (vMv (.l 0))) k)))
 zRet))), [.tmp (.v 2)]⟩
theorem G43_ok (fn : Nat → Option Func) (pu : Nat → Bool) (pr : Nat → List AV → Option (Heap → Option (Eff × Acc))) : ZOk ⟨Tryz.tyT, fn, pu, pr⟩ npT F43 (G43 ⟨Tryz.tyT, fn, pu, pr⟩) := ⟨by kernel_rfl, by kernel_rfl, by kernel_rfl, fun cy Y k => by kernel_rfl⟩
noncomputable def F44 : FFn := cF LV 0 [0, 1, 3, 5, 2, 6, 4] Tryz.f44
noncomputable def G44 (E : Env) : ZFn := ⟨74, [0, 1, 3, 5, 2, 6, 4], fun cy Y fuel =>
 (zSeq (zReg fun k => (zStep E (cy Y) ⟨.box 37 (.v 0), (.var 4), none, false, 0, (some 0)⟩) ((zStep E (cy Y) ⟨.box 29 (.v 1), (.var 2), none, false, 1, (some 1)⟩) ((zV 6 (vMv (.k (.bool false)))) k)))
 (zSeq (zSeq (zReg fun k => (zP (vFieldAddr 3 (.v 2))) ((zL 1 false (.l 0)) ((zP (vLenL (.l 0))) ((zP (vInt E fGtr .gtr 3 false true (.l 0) (.k (.int .i64 40)))) k))))
 (zCond (.l 0) (zSeq (zReg fun k => (zV 6 (vMv (.k (.bool false)))) k)
 zRet) zSkip))
 (zSeq (zSeq (zReg fun k => (zV 3 (vMv (.k (.int .i64 0)))) k)
 (zBlock 0 (zLoop fuel (zSeq (zSeq (zReg fun k => (zP (vFieldAddr 3 (.v 2))) ((zL 1 false (.l 0)) ((zP (vLenL (.l 0))) ((zP (vInt E fLss .lss 3 false false (.v 3) (.l 0))) k))))
 (zCond (.l 0) zSkip (zExit 0)))
 (zSeq (zBlock 1 (zSeq (zSeq (zDreg 3 fun n0 k => (zPD (vFieldAddr 3 (.v 2))) ((zLD B24 1 1 false (.l 0)) ((zPD (vIndexAddr 1 (.l 0) (.v 3))) ((zLD B24 4 1 false (.l 0)) ((zCallD (cy Y) B24 5 43 [(.l 0)] .push) ((zPD (vNot (.l 0))) ((zGD (.l 0) false .push (zPD (vFieldAddr 1 (.v 4)))) ((zGD (.l 1) false .push (zLD B24 9 1 false (.l 0))) ((zGD (.l 2) false .push (zPD (vIndexAddr 2 (.l 0) (.k (.int .i64 0))))) ((zGD (.l 3) false .push (zLD B24 11 2 true (.l 0))) ((zGD (.l 4) false .push (zPD (vFieldAddr 4 (.v 2)))) ((zGD (.l 5) false .push (zLD B24 13 1 false (.l 0))) ((zGD (.l 6) false .push (zPD (vMv (.v 3)))) ((zGD (.l 7) false .push (zPD (vIndexAddr 5 (.l 1) (.l 0)))) ((zGD (.l 8) false .push (zLD B24 16 5 true (.l 0))) ((zGD (.l 9) false .push (zCallD (cy Y) B24 17 18 [(.l 5), (.l 0)] .push)) ((zGD (.l 10) false .push (zPD (vNot (.l 0)))) ((zPD (vPick (.l 11) (.k (.bool true)) (.l 0))) ((zGD (.l 0) false .push (zPD (vMv (.v 3)))) ((zGD (.l 1) false .push (zPD (vInt E fGtr .gtr 3 false true (.l 0) (.k (.int .i64 0))))) ((zGD (.l 2) false .push (zPD (vMv (.l 0)))) ((zGD (.l 0) true .push (zPD (vFieldAddr 3 (.v 2)))) ((zGD (.l 1) true .push (zLD B24 25 1 false (.l 0))) ((zGD (.l 2) true .push (zPD (vMv (.v 3)))) ((zGD (.l 3) true .push (zPD (vInt E fSub .sub 3 false true (.l 0) (.k (.int .i64 1))))) ((zGD (.l 4) true .push (zPD (vIndexAddr 1 (.l 2) (.l 0)))) ((zGD (.l 5) true .push (zLD B24 29 1 false (.l 0))) ((zGD (.l 6) true .push (zPD (vFieldAddr 3 (.v 2)))) ((zGD (.l 7) true .push (zLD B24 31 1 false (.l 0))) ((zGD (.l 8) true .push (zPD (vMv (.v 3)))) ((zGD (.l 9) true .push (zPD (vIndexAddr 1 (.l 1) (.l 0)))) ((zGD (.l 10) true .push (zLD B24 34 1 false (.l 0))) ((zGD (.l 11) true .push (zCallD (cy Y) B24 35 70 [(.l 5), (.l 0)] .push)) ((zGD (.l 12) true .push (zPD (vNot (.l 0)))) ((zGD (.l 16) false .push (zPD (vPick (.l 13) (.l 0) (.k (.bool false))))) ((zPD (vPick (.l 17) (.k (.bool true)) (.l 0))) k))))))))))))))))))))))))))))))))))))
 (zCond (.l 0) (zSeq (zReg fun k => (zV 6 (vMv (.k (.bool false)))) k)
 zRet) zSkip))
 (zSeq (zReg fun k => (zV 5 (vMv (.k (.int .i64 0)))) k)
 (zBlock 2 (zLoop fuel (zSeq (zSeq (zReg fun k => (zP (vInt E fLss .lss 3 false false (.v 5) (.v 3))) k)
 (zCond (.l 0) zSkip (zExit 2)))
 (zSeq (zBlock 3 (zSeq (zDreg 1 fun n0 k => (zPD (vFieldAddr 3 (.v 2))) ((zLD B7 1 1 false (.l 0)) ((zPD (vIndexAddr 1 (.l 0) (.v 5))) ((zLD B7 4 1 false (.l 0)) ((zPD (vFieldAddr 3 (.v 2))) ((zLD B7 6 1 false (.l 0)) ((zPD (vIndexAddr 1 (.l 0) (.v 3))) ((zLD B7 9 1 false (.l 0)) ((zCallD (cy Y) B7 10 71 [(.l 4), (.l 0)] .push) ((zPD (vInt E fNeq .neq 3 false true (.l 0) (.k (.int .i64 2)))) k))))))))))
 (zCond (.l 0) (zSeq (zReg fun k => (zV 6 (vMv (.k (.bool false)))) k)
 zRet) zSkip)))
 (zReg fun k => (zP (vMv (.v 5))) ((zP (vInt E fAdd .add 3 false true (.l 0) (.k (.int .i64 1)))) ((zV 5 (vMv (.l 0))) k))))))))))
 (zReg fun k => (zP (vMv (.v 3))) ((zP (vInt E fAdd .add 3 false true (.l 0) (.k (.int .i64 1)))) ((zV 3 (vMv (.l 0))) k))))))))
 (zSeq (zReg fun k => (zV 6 (vMv (.k (.bool true)))) k)
 zRet)))), [.tmp (.v 6)]⟩
theorem G44_ok (fn : Nat → Option Func) (pu : Nat → Bool) (pr : Nat → List AV → Option (Heap → Option (Eff × Acc))) : ZOk ⟨Tryz.tyT, fn, pu, pr⟩ npT F44 (G44 ⟨Tryz.tyT, fn, pu, pr⟩) := ⟨by kernel_rfl, by kernel_rfl, by kernel_rfl, fun cy Y k => by kernel_rfl⟩
noncomputable def F45 : FFn := cF LV 0 [0, 1, 4] Tryz.f45
noncomputable def G45 (E : Env) : ZFn := ⟨9, [0, 1, 4], fun cy Y fuel =>
 (zSeq (zReg fun k => (zV 2 (vMv (.k (.bool false)))) k)
 (zSeq (zReg fun k => (zCall (cy Y) 72 [(.v 0), (.v 1)] .push) ((zP (vInt E (fGen .geq) .geq 3 false true (.l 0) (.k (.int .i64 0)))) ((zV 2 (vMv (.l 0))) k)))
 zRet)), [.tmp (.v 2)]⟩
theorem G45_ok (fn : Nat → Option Func) (pu : Nat → Bool) (pr : Nat → List AV → Option (Heap → Option (Eff × Acc))) : ZOk ⟨Tryz.tyT, fn, pu, pr⟩ npT F45 (G45 ⟨Tryz.tyT, fn, pu, pr⟩) := ⟨by kernel_rfl, by kernel_rfl, by kernel_rfl, fun cy Y k => by kernel_rfl⟩
noncomputable def F46 : FFn := cF LV 0 [0, 1, 2] Tryz.f46
noncomputable def G46 (E : Env) : ZFn := ⟨11, [0, 1, 2], fun cy Y fuel =>
 (zSeq (zReg fun k => (zStep E (cy Y) ⟨.box 43 (.v 0), (.var 1), none, false, 0, (some 0)⟩) ((zV 2 (vMv (.k (.bool false)))) k))
 (zSeq (zReg fun k => (zP (vFieldAddr 0 (.v 1))) ((zL 1 false (.l 0)) ((zP (vInt E fLss .lss 3 false true (.l 0) (.k (.int .i64 0)))) ((zG (.l 0) false .push (zP (vFieldAddr 0 (.v 1)))) ((zG (.l 1) false .push (zL 1 false (.l 0))) ((zG (.l 2) false .push (zP (vInt E fGtr .gtr 3 false true (.l 0) (.k (.int .i64 1000000))))) ((zP (vPick (.l 3) (.k (.bool true)) (.l 0))) ((zV 2 (vMv (.l 0))) k))))))))
 zRet)), [.tmp (.v 2)]⟩
theorem G46_ok (fn : Nat → Option Func) (pu : Nat → Bool) (pr : Nat → List AV → Option (Heap → Option (Eff × Acc))) : ZOk ⟨Tryz.tyT, fn, pu, pr⟩ npT F46 (G46 ⟨Tryz.tyT, fn, pu, pr⟩) := ⟨by kernel_rfl, by kernel_rfl, by kernel_rfl, fun cy Y k => by kernel_rfl⟩
noncomputable def F47 : FFn := cF LV 0 [6, 8, 1, 0, 7, 2, 9] Tryz.f47
noncomputable def G47 (E : Env) : ZFn := ⟨63, [6, 8, 1, 0, 7, 2, 9], fun cy Y fuel =>
 (zSeq (zReg fun k => (zV 0 (vMv (.k (.int .i64 20)))) k)
 (zSeq (zReg fun k => (zV 4 (vMv (.k (.int .i64 0)))) ((zV 1 (vMv (.v 0))) k))
 (zSeq (zBlock 0 (zLoop fuel (zSeq (zSeq (zReg fun k => (zP (vInt E (fGen .leq) .leq 3 false false (.v 1) (.v 2))) k)
 (zCond (.l 0) zSkip (zExit 0)))
 (zBlock 1 (zSeq (zReg fun k => (zCall (cy Y) 73 [(.v 3), (.v 4), (.v 1), (.v 5)] .push) k)
 (zSeq (zReg fun k => (zV 4 (vMv (.v 1))) k)
 (zReg fun k => (zP (vMv (.v 1))) ((zP (vInt E fAdd .add 3 false false (.l 0) (.v 0))) ((zV 1 (vMv (.l 0))) k)))))))))
 (zSeq (zReg fun k => (zCall (cy Y) 73 [(.v 3), (.v 4), (.v 2), (.v 5)] .push) k)
 (zBlock 2 (zLoop fuel (zSeq (zSeq (zReg fun k => (zP (vInt E fLss .lss 3 false false (.v 0) (.v 2))) k)
 (zCond (.l 0) zSkip (zExit 2)))
 (zBlock 3 (zSeq (zReg fun k => (zP (vInt E (fGen .mul) .mul 3 true false (.k (.int .i64 2)) (.v 0))) ((zV 4 (vMv (.k (.int .i64 0)))) ((zV 1 (vMv (.l 0))) k)))
 (zSeq (zBlock 4 (zLoop fuel (zSeq (zSeq (zReg fun k => (zP (vInt E (fGen .leq) .leq 3 false false (.v 1) (.v 2))) k)
 (zCond (.l 0) zSkip (zExit 4)))
 (zBlock 5 (zSeq (zReg fun k => (zP (vInt E fAdd .add 3 false false (.v 4) (.v 0))) ((zCall (cy Y) 74 [(.v 3), (.v 4), (.l 0), (.v 1), (.v 5)] .push) k))
 (zSeq (zReg fun k => (zV 4 (vMv (.v 1))) k)
 (zReg fun k => (zP (vMv (.v 1))) ((zP (vInt E (fGen .mul) .mul 3 true false (.k (.int .i64 2)) (.v 0))) ((zP (vInt E fAdd .add 3 false false (.l 1) (.l 0))) ((zV 1 (vMv (.l 0))) k))))))))))
 (zSeq (zSeq (zReg fun k => (zP (vInt E fAdd .add 3 false false (.v 4) (.v 0))) ((zV 6 (vMv (.l 0))) k))
 (zSeq (zReg fun k => (zP (vInt E fLss .lss 3 false false (.v 6) (.v 2))) k)
 (zCond (.l 0) (zReg fun k => (zCall (cy Y) 74 [(.v 3), (.v 4), (.v 6), (.v 2), (.v 5)] .push) k) zSkip)))
 (zReg fun k => (zP (vMv (.v 0))) ((zP (vInt E (fGen .mul) .mul 3 false true (.l 0) (.k (.int .i64 2)))) ((zV 0 (vMv (.l 0))) k)))))))))))))), []⟩
theorem G47_ok (fn : Nat → Option Func) (pu : Nat → Bool) (pr : Nat → List AV → Option (Heap → Option (Eff × Acc))) : ZOk ⟨Tryz.tyT, fn, pu, pr⟩ npT F47 (G47 ⟨Tryz.tyT, fn, pu, pr⟩) := ⟨by kernel_rfl, by kernel_rfl, by kernel_rfl, fun cy Y k => by kernel_rfl⟩
noncomputable def F48 : FFn := cF LV 0 [0, 2] Tryz.f48
noncomputable def G48 (E : Env) : ZFn := ⟨6, [0, 2], fun cy Y fuel =>
 (zSeq (zReg fun k => (zV 1 (vMv (.k (.bool false)))) k)
 (zSeq (zReg fun k => (zP (vInt E fNeq .neq 3 false false (.v 0) (.v 0))) ((zV 1 (vMv (.l 0))) k))
 zRet)), [.tmp (.v 1)]⟩
theorem G48_ok (fn : Nat → Option Func) (pu : Nat → Bool) (pr : Nat → List AV → Option (Heap → Option (Eff × Acc))) : ZOk ⟨Tryz.tyT, fn, pu, pr⟩ npT F48 (G48 ⟨Tryz.tyT, fn, pu, pr⟩) := ⟨by kernel_rfl, by kernel_rfl, by kernel_rfl, fun cy Y k => by kernel_rfl⟩
noncomputable def F49 : FFn := cF LV 0 [0, 2] Tryz.f49
noncomputable def G49 (E : Env) : ZFn := ⟨6, [0, 2], fun cy Y fuel =>
 (zSeq (zReg fun k => (zV 1 (vMv (.k (.bool false)))) k)
 (zSeq (zReg fun k => (zP (vInt E fNeq .neq 24 false false (.v 0) (.v 0))) ((zV 1 (vMv (.l 0))) k))
 zRet)), [.tmp (.v 1)]⟩
theorem G49_ok (fn : Nat → Option Func) (pu : Nat → Bool) (pr : Nat → List AV → Option (Heap → Option (Eff × Acc))) : ZOk ⟨Tryz.tyT, fn, pu, pr⟩ npT F49 (G49 ⟨Tryz.tyT, fn, pu, pr⟩) := ⟨by kernel_rfl, by kernel_rfl, by kernel_rfl, fun cy Y k => by kernel_rfl⟩
noncomputable def F50 : FFn := cF LV 0 [0, 3, 4, 10, 2] Tryz.f50
noncomputable def G50 (E : Env) : ZFn := ⟨15, [0, 3, 4, 10, 2], fun cy Y fuel =>
 (zSeq (zReg fun k => (zV 4 (vMv (.k (.int .i64 0)))) k)
 (zSeq (zSeq (zReg fun k => (zV 1 (vMv (.v 0))) k)
 (zBlock 0 (zSeq (zSeq (zReg fun k => (zP (vInt E fEql .eql 3 false true (.v 1) (.k (.int .i64 1)))) ((zV 2 (vMv (.l 0))) k))
 (zCond (.v 2) zSkip (zSeq (zReg fun k => (zP (vInt E fEql .eql 3 false true (.v 1) (.k (.int .i64 2)))) ((zV 2 (vMv (.l 0))) k))
 (zCond (.v 2) zSkip (zSeq (zReg fun k => (zP (vInt E fEql .eql 3 false true (.v 1) (.k (.int .i64 3)))) ((zV 2 (vMv (.l 0))) k))
 (zCond (.v 2) zSkip (zSeq (zReg fun k => (zP (vInt E fEql .eql 3 false true (.v 1) (.k (.int .i64 6)))) ((zV 2 (vMv (.l 0))) k))
 (zCond (.v 2) zSkip (zReg fun k => (zP (vInt E fEql .eql 3 false true (.v 1) (.k (.int .i64 7)))) ((zV 2 (vMv (.l 0))) k))))))))))
 (zCond (.v 2) (zSeq (zReg fun k => (zV 4 (vMv (.k (.int .i64 0)))) k)
 zRet) (zSeq (zSeq (zReg fun k => (zP (vInt E fEql .eql 3 false true (.v 1) (.k (.int .i64 4)))) ((zV 3 (vMv (.l 0))) k))
 (zCond (.v 3) zSkip (zReg fun k => (zP (vInt E fEql .eql 3 false true (.v 1) (.k (.int .i64 8)))) ((zV 3 (vMv (.l 0))) k))))
 (zCond (.v 3) (zSeq (zReg fun k => (zV 4 (vMv (.k (.int .i64 1)))) k)
 zRet) (zSeq (zReg fun k => (zP (vInt E fEql .eql 3 false true (.v 1) (.k (.int .i64 5)))) ((zP (vMv (.l 0))) k))
 (zCond (.l 0) (zSeq (zReg fun k => (zV 4 (vMv (.k (.int .i64 2)))) k)
 zRet) zSkip))))))))
 (zSeq (zReg fun k => (zV 4 (vMv (.k (.int .i64 (-1))))) k)
 zRet))), [.tmp (.v 4)]⟩
theorem G50_ok (fn : Nat → Option Func) (pu : Nat → Bool) (pr : Nat → List AV → Option (Heap → Option (Eff × Acc))) : ZOk ⟨Tryz.tyT, fn, pu, pr⟩ npT F50 (G50 ⟨Tryz.tyT, fn, pu, pr⟩) := ⟨by kernel_rfl, by kernel_rfl, by kernel_rfl, fun cy Y k => by kernel_rfl⟩
noncomputable def F51 : FFn := cF LV 0 [0, 9, 8, 7, 1, 6, 4] Tryz.f51
noncomputable def G51 (E : Env) : ZFn := ⟨18, [0, 9, 8, 7, 1, 6, 4], fun cy Y fuel =>
 (zSeq (zReg fun k => (zV 6 (vMv (.k (.bool false)))) k)
 (zSeq (zSeq (zReg fun k => (zV 3 (vMv (.v 0))) ((zV 2 (vLenL (.v 3))) ((zV 1 (vMv (.k (.int .i64 0)))) k)))
 (zBlock 0 (zLoop fuel (zSeq (zReg fun k => (zP (vInt E fLss .lss 3 false false (.v 1) (.v 2))) k)
 (zSeq (zCond (.l 0) zSkip (zExit 0))
 (zSeq (zBlock 1 (zSeq (zReg fun k => (zP (vIndexAddr 2 (.v 3) (.v 1))) ((zL 2 true (.l 0)) ((zStep E (cy Y) ⟨.alloc 37, (.var 5), none, false, 2, (some 0)⟩) ((zStep E (cy Y) ⟨.store 37 (.v 5) (.l 0), .none, none, false, 3, none⟩) k))))
 (zSeq (zReg fun k => (zL 2 true (.v 5)) ((zStep E (cy Y) ⟨.callv (.v 4) [(.l 0)], .push, none, false, 2, (some 0)⟩) ((zP (vNot (.l 0))) k)))
 (zCond (.l 0) (zSeq (zReg fun k => (zV 6 (vMv (.k (.bool false)))) k)
 zRet) zSkip))))
 (zReg fun k => (zP (vInt E fAdd .add 3 false true (.v 1) (.k (.int .i64 1)))) ((zV 1 (vMv (.l 0))) k))))))))
 (zSeq (zReg fun k => (zV 6 (vMv (.k (.bool true)))) k)
 zRet))), [.tmp (.v 6)]⟩
theorem G51_ok (fn : Nat → Option Func) (pu : Nat → Bool) (pr : Nat → List AV → Option (Heap → Option (Eff × Acc))) : ZOk ⟨Tryz.tyT, fn, pu, pr⟩ npT F51 (G51 ⟨Tryz.tyT, fn, pu, pr⟩) := ⟨by kernel_rfl, by kernel_rfl, by kernel_rfl, fun cy Y k => by kernel_rfl⟩
noncomputable def F52 : FFn := cF LV 0 [0, 2, 1, 3] Tryz.f52
noncomputable def G52 (E : Env) : ZFn := ⟨8, [0, 2, 1, 3], fun cy Y fuel =>
 (zSeq (zReg fun k => (zStep E (cy Y) ⟨.box 37 (.v 0), (.var 1), none, false, 0, (some 0)⟩) ((zV 3 (vMv (.k (.bool false)))) k))
 (zSeq (zReg fun k => (zL 2 true (.v 1)) ((zL 1 false (.v 2)) ((zP (vInt E fSub .sub 3 false true (.l 0) (.k (.int .i64 1)))) ((zCall (cy Y) 28 [(.l 2), (.l 0)] .push) ((zV 3 (vMv (.l 0))) k)))))
 zRet)), [.tmp (.v 3)]⟩
theorem G52_ok (fn : Nat → Option Func) (pu : Nat → Bool) (pr : Nat → List AV → Option (Heap → Option (Eff × Acc))) : ZOk ⟨Tryz.tyT, fn, pu, pr⟩ npT F52 (G52 ⟨Tryz.tyT, fn, pu, pr⟩) := ⟨by kernel_rfl, by kernel_rfl, by kernel_rfl, fun cy Y k => by kernel_rfl⟩
noncomputable def F53 : FFn := cF LV 0 [0, 8, 7, 1, 5, 4] Tryz.f53
noncomputable def xbody53 (E : Env) (call : CallTT) : CZ := (zSeq (zReg fun k => (zP (vInt E fLss .lss 3 false false (.v 1) (.v 2))) k)
 (zSeq (zCond (.l 0) zSkip (zExit 0))
 (zSeq (zBlock 1 (zSeq (zReg fun k => (zV 4 (vMv (.v 1))) k)
 (zSeq (zReg fun k => (zP (vIndexAddr 1 (.v 0) (.v 4))) ((zL 1 false (.l 0)) ((zStep E call ⟨.callv (.v 3) [(.l 0)], .push, none, false, 5, (some 0)⟩) k)))
 (zCond (.l 0) (zSeq (zReg fun k => (zV 5 (vMv (.v 4))) k)
 zRet) zSkip))))
 (zReg fun k => (zP (vInt E fAdd .add 3 false true (.v 1) (.k (.int .i64 1)))) ((zV 1 (vMv (.l 0))) k)))))
noncomputable def G53 (E : Env) : ZFn := ⟨19, [0, 8, 7, 1, 5, 4], fun cy Y fuel =>
 (zSeq (zReg fun k => (zV 5 (vMv (.k (.int .i64 0)))) k)
 (zSeq (zSeq (zReg fun k => (zV 2 (vLenL (.v 0))) ((zV 1 (vMv (.k (.int .i64 0)))) k))
 (zBlock 0 (zLoop fuel (xbody53 E (cy Y)))))
 (zSeq (zReg fun k => (zV 5 (vMv (.k (.int .i64 (-1))))) k)
 zRet))), [.tmp (.v 5)]⟩
theorem G53_ok (fn : Nat → Option Func) (pu : Nat → Bool) (pr : Nat → List AV → Option (Heap → Option (Eff × Acc))) : ZOk ⟨Tryz.tyT, fn, pu, pr⟩ npT F53 (G53 ⟨Tryz.tyT, fn, pu, pr⟩) := ⟨by kernel_rfl, by kernel_rfl, by kernel_rfl, fun cy Y k => by kernel_rfl⟩
noncomputable def F54 : FFn := cF LV 0 [0, 1, 2, 6] Tryz.f54
noncomputable def G54 (E : Env) : ZFn := ⟨11, [0, 1, 2, 6], fun cy Y fuel =>
 (zSeq (zReg fun k => (zStep E (cy Y) ⟨.alloc 93, (.var 3), none, false, 0, (some 0)⟩) k)
 (zSeq (zReg fun k => (zStep E (cy Y) ⟨.build 93 [(0, (.v 0)), (1, (.v 1)), (2, (.v 2))], .push, none, false, 3, none⟩) ((zStep E (cy Y) ⟨.store 93 (.v 3) (.l 0), .none, none, false, 4, none⟩) k))
 zRet)), [.cell (.v 3) 93]⟩
theorem G54_ok (fn : Nat → Option Func) (pu : Nat → Bool) (pr : Nat → List AV → Option (Heap → Option (Eff × Acc))) : ZOk ⟨Tryz.tyT, fn, pu, pr⟩ npT F54 (G54 ⟨Tryz.tyT, fn, pu, pr⟩) := ⟨by kernel_rfl, by kernel_rfl, by kernel_rfl, fun cy Y k => by kernel_rfl⟩
noncomputable def F55 : FFn := cF LV 0 [0, 1, 2, 3, 4] Tryz.f55
noncomputable def G55 (E : Env) : ZFn := ⟨12, [0, 1, 2, 3, 4], fun cy Y fuel =>
 (zSeq (zReg fun k => (zStep E (cy Y) ⟨.box 37 (.v 0), (.var 2), none, false, 0, (some 0)⟩) ((zStep E (cy Y) ⟨.box 29 (.v 1), (.var 3), none, false, 1, (some 1)⟩) ((zV 4 (vMv (.k (.bool false)))) k)))
 (zSeq (zReg fun k => (zL 2 true (.v 2)) ((zCall (cy Y) 13 [(.l 0)] .push) ((zG (.l 0) true .push (zL 2 true (.v 2))) ((zG (.l 1) true .push (zL 5 true (.v 3))) ((zG (.l 2) true .push (zCall (cy Y) 75 [(.l 1), (.l 0)] .push)) ((zP (vPick (.l 3) (.l 0) (.k (.bool false)))) ((zV 4 (vMv (.l 0))) k)))))))
 zRet)), [.tmp (.v 4)]⟩
theorem G55_ok (fn : Nat → Option Func) (pu : Nat → Bool) (pr : Nat → List AV → Option (Heap → Option (Eff × Acc))) : ZOk ⟨Tryz.tyT, fn, pu, pr⟩ npT F55 (G55 ⟨Tryz.tyT, fn, pu, pr⟩) := ⟨by kernel_rfl, by kernel_rfl, by kernel_rfl, fun cy Y k => by kernel_rfl⟩
noncomputable def F56 : FFn := cF LV 0 [0, 8, 7, 1, 5, 4] Tryz.f56
noncomputable def G56 (E : Env) : ZFn := ⟨19, [0, 8, 7, 1, 5, 4], fun cy Y fuel =>
 (zSeq (zReg fun k => (zV 5 (vMv (.k (.int .i64 0)))) k)
 (zSeq (zSeq (zReg fun k => (zV 2 (vLenL (.v 0))) ((zV 1 (vMv (.k (.int .i64 0)))) k))
 (zBlock 0 (zLoop fuel (xbody53 E (cy Y)))))
 (zSeq (zReg fun k => (zV 5 (vMv (.k (.int .i64 (-1))))) k)
 zRet))), [.tmp (.v 5)]⟩
theorem G56_ok (fn : Nat → Option Func) (pu : Nat → Bool) (pr : Nat → List AV → Option (Heap → Option (Eff × Acc))) : ZOk ⟨Tryz.tyT, fn, pu, pr⟩ npT F56 (G56 ⟨Tryz.tyT, fn, pu, pr⟩) := ⟨by kernel_rfl, by kernel_rfl, by kernel_rfl, fun cy Y k => by kernel_rfl⟩
noncomputable def F58 : FFn := cF LV 0 [0, 2] Tryz.f58
noncomputable def G58 (E : Env) : ZFn := ⟨11, [0, 2], fun cy Y fuel =>
 (zSeq (zReg fun k => (zP (vLenL (.v 0))) ((zV 1 (vMv (.l 0))) k))
 (zReg fun k => (zP (vConv .u64 (.v 1))) ((zCall (cy Y) 77 [(.l 0)] .push) ((zCall (cy Y) 76 [(.v 0), (.k (.int .i64 0)), (.v 1), (.l 0)] .push) k)))), []⟩
theorem G58_ok (fn : Nat → Option Func) (pu : Nat → Bool) (pr : Nat → List AV → Option (Heap → Option (Eff × Acc))) : ZOk ⟨Tryz.tyT, fn, pu, pr⟩ npT F58 (G58 ⟨Tryz.tyT, fn, pu, pr⟩) := ⟨by kernel_rfl, by kernel_rfl, by kernel_rfl, fun cy Y k => by kernel_rfl⟩
noncomputable def F59 : FFn := cF LV 0 [0, 3, 5, 4, 2] Tryz.f59
noncomputable def G59 (E : Env) : ZFn := ⟨61, [0, 3, 5, 4, 2], fun cy Y fuel =>
 (zSeq (zReg fun k => (zV 4 (vMv (.k (.sl 0 [] true)))) k)
 (zSeq (zSeq (zReg fun k => (zP (vLenL (.v 0))) ((zP (vInt E fLss .lss 3 false true (.l 0) (.k (.int .i64 2)))) k))
 (zCond (.l 0) (zSeq (zReg fun k => (zV 4 (vMv (.v 0))) k)
 zRet) zSkip))
 (zSeq (zSeq (zReg fun k => (zV 1 (vMv (.k (.int .i64 1)))) k)
 (zBlock 0 (zLoop fuel (zSeq (zSeq (zReg fun k => (zP (vLenL (.v 0))) ((zP (vInt E fLss .lss 3 false false (.v 1) (.l 0))) k))
 (zCond (.l 0) zSkip (zExit 0)))
 (zSeq (zBlock 1 (zSeq (zDreg 0 fun n0 k => (zPD (vIndexAddr 1 (.v 0) (.v 1))) ((zLD B25 3 1 false (.l 0)) ((zPD (vInt E fSub .sub 3 false true (.v 1) (.k (.int .i64 1)))) ((zPD (vIndexAddr 1 (.v 0) (.l 0))) ((zLD B25 8 1 false (.l 0)) ((zPD (vInt E fEql .eql 9 false false (.l 3) (.l 0))) k))))))
 (zCond (.l 0) (zSeq (zReg fun k => (zStep E (cy Y) ⟨.slice 25 (.v 0) (some (.v 1)) none none, .push, none, false, 2, none⟩) ((zV 3 (vMv (.l 0))) k))
 (zSeq (zSeq (zReg fun k => (zV 2 (vMv (.k (.int .i64 1)))) k)
 (zBlock 2 (zLoop fuel (zSeq (zSeq (zReg fun k => (zP (vLenL (.v 3))) ((zP (vInt E fLss .lss 3 false false (.v 2) (.l 0))) k))
 (zCond (.l 0) zSkip (zExit 2)))
 (zSeq (zBlock 3 (zSeq (zDreg 0 fun n0 k => (zPD (vIndexAddr 1 (.v 3) (.v 2))) ((zLD B25 3 1 false (.l 0)) ((zPD (vInt E fSub .sub 3 false true (.v 2) (.k (.int .i64 1)))) ((zPD (vIndexAddr 1 (.v 3) (.l 0))) ((zLD B25 8 1 false (.l 0)) ((zPD (vInt E fNeq .neq 9 false false (.l 3) (.l 0))) k))))))
 (zCond (.l 0) (zSeq (zReg fun k => (zP (vIndexAddr 1 (.v 3) (.v 2))) ((zL 1 false (.l 0)) ((zP (vIndexAddr 1 (.v 0) (.v 1))) ((zStep E (cy Y) ⟨.store 9 (.l 0) (.l 1), .none, none, false, 7, none⟩) k))))
 (zReg fun k => (zP (vMv (.v 1))) ((zP (vInt E fAdd .add 3 false true (.l 0) (.k (.int .i64 1)))) ((zV 1 (vMv (.l 0))) k)))) zSkip)))
 (zReg fun k => (zP (vMv (.v 2))) ((zP (vInt E fAdd .add 3 false true (.l 0) (.k (.int .i64 1)))) ((zV 2 (vMv (.l 0))) k))))))))
 (zSeq (zReg fun k => (zStep E (cy Y) ⟨.slice 25 (.v 0) (some (.v 1)) none none, .push, none, false, 2, none⟩) ((zStep E (cy Y) ⟨.ext (.clear 25) [(.l 0)], .none, none, false, 3, none⟩) k))
 (zSeq (zReg fun k => (zStep E (cy Y) ⟨.slice 25 (.v 0) none (some (.v 1)) none, .push, none, false, 2, none⟩) ((zV 4 (vMv (.l 0))) k))
 zRet)))) zSkip)))
 (zReg fun k => (zP (vMv (.v 1))) ((zP (vInt E fAdd .add 3 false true (.l 0) (.k (.int .i64 1)))) ((zV 1 (vMv (.l 0))) k))))))))
 (zSeq (zReg fun k => (zV 4 (vMv (.v 0))) k)
 zRet)))), [.tmp (.v 4)]⟩
theorem G59_ok (fn : Nat → Option Func) (pu : Nat → Bool) (pr : Nat → List AV → Option (Heap → Option (Eff × Acc))) : ZOk ⟨Tryz.tyT, fn, pu, pr⟩ npT F59 (G59 ⟨Tryz.tyT, fn, pu, pr⟩) := ⟨by kernel_rfl, by kernel_rfl, by kernel_rfl, fun cy Y k => by kernel_rfl⟩
noncomputable def F60 : FFn := cF LV 0 [1, 2, 5, 8, 6, 3, 0, 7] Tryz.f60
noncomputable def G60 (E : Env) : ZFn := ⟨39, [1, 2, 5, 8, 6, 3, 0, 7], fun cy Y fuel =>
 (zSeq (zReg fun k => (zStep E (cy Y) ⟨.box 29 (.v 0), (.var 2), none, false, 0, (some 0)⟩) ((zStep E (cy Y) ⟨.alloc 29, (.var 4), none, false, 1, (some 1)⟩) ((zV 7 (vMv (.k .nilIface))) k)))
 (zSeq (zDreg 1 fun n0 k => (zPD (vFieldAddr 1 (.v 1))) ((zLD B26 1 1 false (.l 0)) ((zPD (vIndexAddr 2 (.l 0) (.k (.int .i64 0)))) ((zLD B26 3 2 true (.l 0)) ((zLD B26 4 5 true (.v 2)) ((zCallD (cy Y) B26 5 15 [(.l 1), (.l 0)] .push) ((zPD (vExtract 0 (.l 0))) ((zPD (vExtract 1 (.l 1))) ((zStepD E (cy Y) B26 n0 ⟨.store 29 (.v 2) (.l 1), .none, none, false, 9, none⟩) ((zVD 3 (vMv (.l 0))) k))))))))))
 (zSeq (zSeq (zDreg 1 fun n0 k => (zPD (vInt E fNeq .neq 32 false true (.v 3) (.k .nilIface))) ((zGD (.l 0) false .push (zPD (vFieldAddr 1 (.v 1)))) ((zGD (.l 1) false .push (zLD B27 4 1 false (.l 0))) ((zGD (.l 2) false .push (zPD (vIndexAddr 2 (.l 0) (.k (.int .i64 0))))) ((zGD (.l 3) false .push (zLD B27 6 2 true (.l 0))) ((zGD (.l 4) false .push (zLD B27 7 5 true (.v 2))) ((zGD (.l 5) false .push (zCallD (cy Y) B27 8 61 [(.l 1), (.l 0)] .push)) ((zPD (vPick (.l 6) (.k (.bool true)) (.l 0))) k))))))))
 (zCond (.l 0) (zSeq (zReg fun k => (zStep E (cy Y) ⟨.build 29 [], .push, none, false, 0, none⟩) ((zStep E (cy Y) ⟨.store 29 (.v 4) (.l 0), .none, none, false, 2, none⟩) ((zV 7 (vMv (.v 3))) k)))
 zRet) zSkip))
 (zSeq (zDreg 2 fun n0 k => (zPD (vFieldAddr 2 (.v 5))) ((zLD B28 1 1 false (.l 0)) ((zPD (vIndexAddr 1 (.l 0) (.v 6))) ((zLD B28 4 1 false (.l 0)) ((zStepD E (cy Y) B28 n0 ⟨.buildSlice 25 1 [(0, (.l 0))], .push, none, false, 5, (some 0)⟩) ((zLD B28 6 5 true (.v 2)) ((zStepD E (cy Y) B28 n0 ⟨.buildSlice 27 1 [(0, (.l 0))], .push, none, false, 7, (some 1)⟩) ((zStepD E (cy Y) B28 n0 ⟨.build 29 [(2, (.l 2)), (4, (.l 0))], .push, none, false, 8, none⟩) ((zStepD E (cy Y) B28 n0 ⟨.store 29 (.v 4) (.l 0), .none, none, false, 9, none⟩) ((zVD 7 (vMv (.k .nilIface))) k))))))))))
 zRet)))), [.cell (.v 4) 29, .tmp (.v 7)]⟩
theorem G60_ok (fn : Nat → Option Func) (pu : Nat → Bool) (pr : Nat → List AV → Option (Heap → Option (Eff × Acc))) : ZOk ⟨Tryz.tyT, fn, pu, pr⟩ npT F60 (G60 ⟨Tryz.tyT, fn, pu, pr⟩) := ⟨by kernel_rfl, by kernel_rfl, by kernel_rfl, fun cy Y k => by kernel_rfl⟩
noncomputable def F61 : FFn := cF LV 0 [0, 1, 2, 3, 4] Tryz.f61
noncomputable def G61 (E : Env) : ZFn := ⟨9, [0, 1, 2, 3, 4], fun cy Y fuel =>
 (zSeq (zReg fun k => (zStep E (cy Y) ⟨.box 37 (.v 0), (.var 2), none, false, 0, (some 0)⟩) ((zStep E (cy Y) ⟨.box 29 (.v 1), (.var 3), none, false, 1, (some 1)⟩) ((zV 4 (vMv (.k (.bool false)))) k)))
 (zSeq (zDreg 2 fun n0 k => (zLD B29 0 2 true (.v 2)) ((zCallD (cy Y) B29 1 79 [(.l 0)] .push) ((zLD B29 2 5 true (.v 3)) ((zCallD (cy Y) B29 3 78 [(.l 1), (.l 0)] .push) ((zVD 4 (vMv (.l 0))) k)))))
 zRet)), [.tmp (.v 4)]⟩
theorem G61_ok (fn : Nat → Option Func) (pu : Nat → Bool) (pr : Nat → List AV → Option (Heap → Option (Eff × Acc))) : ZOk ⟨Tryz.tyT, fn, pu, pr⟩ npT F61 (G61 ⟨Tryz.tyT, fn, pu, pr⟩) := ⟨by kernel_rfl, by kernel_rfl, by kernel_rfl, fun cy Y k => by kernel_rfl⟩
noncomputable def F62 : FFn := cF LV 0 [0, 1, 2, 3, 4, 6, 7] Tryz.f62
noncomputable def G62 (E : Env) : ZFn := ⟨27, [0, 1, 2, 3, 4, 6, 7], fun cy Y fuel =>
 (zSeq (zReg fun k => (zStep E (cy Y) ⟨.box 37 (.v 0), (.var 3), none, false, 0, (some 0)⟩) ((zStep E (cy Y) ⟨.box 29 (.v 1), (.var 4), none, false, 1, (some 1)⟩) ((zStep E (cy Y) ⟨.alloc 29, (.var 5), none, false, 2, (some 2)⟩) ((zStep E (cy Y) ⟨.alloc 32, (.var 6), none, false, 3, (some 3)⟩) k))))
 (zSeq (zSeq (zReg fun k => k)
 (zBlock 0 (zRange cy Y (.v 2) 0 [none, none, none, (some (.v 3)), (some (.v 4)), none, (some (.v 5)), (some (.v 6))] [none, none, none, (some (.v 3)), (some (.v 4)), none, (some (.v 5)), (some (.v 6)), none, none, none, none, none, none, none, none, none, none, none, none, none, none, none, none, none, none, none] [11, 12] (codeAt [1, 0, 1, 0, 0] (bodyOf Tryz.f62)) (codeAt [1, 0, 1, 0, 1] (bodyOf Tryz.f62)))))
 (zSeq (zReg fun k => (zL 5 true (.v 4)) ((zStep E (cy Y) ⟨.store 29 (.v 5) (.l 0), .none, none, false, 1, none⟩) ((zStep E (cy Y) ⟨.store 32 (.v 6) (.k .nilIface), .none, none, false, 2, none⟩) k)))
 zRet))), [.cell (.v 5) 29, .cell (.v 6) 32]⟩
theorem G62_ok (fn : Nat → Option Func) (pu : Nat → Bool) (pr : Nat → List AV → Option (Heap → Option (Eff × Acc))) : ZOk ⟨Tryz.tyT, fn, pu, pr⟩ npT F62 (G62 ⟨Tryz.tyT, fn, pu, pr⟩) := ⟨by kernel_rfl, by kernel_rfl, by kernel_rfl, fun cy Y k => by kernel_rfl⟩
noncomputable def F63 : FFn := cF LV 0 [0, 1, 2, 3, 4] Tryz.f63
noncomputable def G63 (E : Env) : ZFn := ⟨6, [0, 1, 2, 3, 4], fun cy Y fuel =>
 (zSeq (zReg fun k => (zStep E (cy Y) ⟨.box 27 (.v 0), (.var 2), none, false, 0, (some 0)⟩) ((zStep E (cy Y) ⟨.box 97 (.v 1), (.var 3), none, false, 1, (some 1)⟩) ((zV 4 (vMv (.k .nilFunc))) k)))
 (zSeq (zReg fun k => (zStep E (cy Y) ⟨.mkFunc 81 [(.v 2), (.v 3)], .push, none, false, 0, none⟩) ((zV 4 (vMv (.l 0))) k))
 zRet)), [.tmp (.v 4)]⟩
theorem G63_ok (fn : Nat → Option Func) (pu : Nat → Bool) (pr : Nat → List AV → Option (Heap → Option (Eff × Acc))) : ZOk ⟨Tryz.tyT, fn, pu, pr⟩ npT F63 (G63 ⟨Tryz.tyT, fn, pu, pr⟩) := ⟨by kernel_rfl, by kernel_rfl, by kernel_rfl, fun cy Y k => by kernel_rfl⟩
noncomputable def F65 : FFn := cF LV 0 [1, 2, 0, 9, 6, 3, 5, 8, 7] Tryz.f65
noncomputable def G65 (E : Env) : ZFn := ⟨38, [1, 2, 0, 9, 6, 3, 5, 8, 7], fun cy Y fuel =>
 (zSeq (zReg fun k => (zStep E (cy Y) ⟨.box 29 (.v 0), (.var 6), none, false, 0, (some 0)⟩) ((zStep E (cy Y) ⟨.alloc 29, (.var 4), none, false, 1, (some 1)⟩) ((zV 8 (vMv (.k .nilIface))) k)))
 (zSeq (zReg fun k => (zP (vFieldAddr 3 (.v 1))) ((zL 1 false (.l 0)) ((zP (vIndexAddr 1 (.l 0) (.v 2))) ((zL 1 false (.l 0)) ((zCall (cy Y) 10 [(.l 0)] .push) ((zP (vExtract 0 (.l 0))) ((zP (vExtract 1 (.l 1))) ((zV 7 (vMv (.l 1))) ((zV 3 (vMv (.l 0))) k)))))))))
 (zSeq (zSeq (zReg fun k => (zP (vInt E fNeq .neq 32 false true (.v 3) (.k .nilIface))) k)
 (zCond (.l 0) (zSeq (zReg fun k => (zStep E (cy Y) ⟨.build 29 [], .push, none, false, 0, none⟩) ((zStep E (cy Y) ⟨.store 29 (.v 4) (.l 0), .none, none, false, 2, none⟩) ((zV 8 (vMv (.v 3))) k)))
 zRet) zSkip))
 (zSeq (zDreg 1 fun n0 k => (zPD (vFieldAddr 1 (.v 5))) ((zLD B26 1 1 false (.l 0)) ((zPD (vIndexAddr 2 (.l 0) (.k (.int .i64 0)))) ((zLD B26 3 2 true (.l 0)) ((zLD B26 4 5 true (.v 6)) ((zCallD (cy Y) B26 5 15 [(.l 1), (.l 0)] .push) ((zPD (vExtract 0 (.l 0))) ((zPD (vExtract 1 (.l 1))) ((zStepD E (cy Y) B26 n0 ⟨.store 29 (.v 6) (.l 1), .none, none, false, 9, none⟩) ((zVD 3 (vMv (.l 0))) k))))))))))
 (zSeq (zReg fun k => (zStep E (cy Y) ⟨.buildSlice 26 1 [(0, (.v 7))], .push, none, false, 1, (some 0)⟩) ((zL 5 true (.v 6)) ((zStep E (cy Y) ⟨.buildSlice 27 1 [(0, (.l 0))], .push, none, false, 3, (some 1)⟩) ((zStep E (cy Y) ⟨.build 29 [(3, (.l 2)), (4, (.l 0))], .push, none, false, 4, none⟩) ((zStep E (cy Y) ⟨.store 29 (.v 4) (.l 0), .none, none, false, 6, none⟩) ((zV 8 (vMv (.v 3))) k))))))
 zRet))))), [.cell (.v 4) 29, .tmp (.v 8)]⟩
theorem G65_ok (fn : Nat → Option Func) (pu : Nat → Bool) (pr : Nat → List AV → Option (Heap → Option (Eff × Acc))) : ZOk ⟨Tryz.tyT, fn, pu, pr⟩ npT F65 (G65 ⟨Tryz.tyT, fn, pu, pr⟩) := ⟨by kernel_rfl, by kernel_rfl, by kernel_rfl, fun cy Y k => by kernel_rfl⟩
noncomputable def F66 : FFn := cF LV 0 [0, 3, 4, 10, 2] Tryz.f66
noncomputable def G66 (E : Env) : ZFn := ⟨15, [0, 3, 4, 10, 2], fun cy Y fuel =>
 (zSeq (zReg fun k => (zV 4 (vMv (.k (.int .i64 0)))) k)
 (zSeq (zSeq (zReg fun k => (zV 1 (vMv (.v 0))) k)
 (zBlock 0 (zSeq (zSeq (zReg fun k => (zP (vInt E fEql .eql 3 false true (.v 1) (.k (.int .i64 1)))) ((zV 2 (vMv (.l 0))) k))
 (zCond (.v 2) zSkip (zSeq (zReg fun k => (zP (vInt E fEql .eql 3 false true (.v 1) (.k (.int .i64 2)))) ((zV 2 (vMv (.l 0))) k))
 (zCond (.v 2) zSkip (zSeq (zReg fun k => (zP (vInt E fEql .eql 3 false true (.v 1) (.k (.int .i64 3)))) ((zV 2 (vMv (.l 0))) k))
 (zCond (.v 2) zSkip (zSeq (zReg fun k => (zP (vInt E fEql .eql 3 false true (.v 1) (.k (.int .i64 6)))) ((zV 2 (vMv (.l 0))) k))
 (zCond (.v 2) zSkip (zReg fun k => (zP (vInt E fEql .eql 3 false true (.v 1) (.k (.int .i64 7)))) ((zV 2 (vMv (.l 0))) k))))))))))
 (zCond (.v 2) (zSeq (zReg fun k => (zV 4 (vMv (.k (.int .i64 0)))) k)
 zRet) (zSeq (zSeq (zReg fun k => (zP (vInt E fEql .eql 3 false true (.v 1) (.k (.int .i64 4)))) ((zV 3 (vMv (.l 0))) k))
 (zCond (.v 3) zSkip (zReg fun k => (zP (vInt E fEql .eql 3 false true (.v 1) (.k (.int .i64 8)))) ((zV 3 (vMv (.l 0))) k))))
 (zCond (.v 3) (zSeq (zReg fun k => (zV 4 (vMv (.k (.int .i64 1)))) k)
 zRet) (zSeq (zReg fun k => (zP (vInt E fEql .eql 3 false true (.v 1) (.k (.int .i64 5)))) ((zP (vMv (.l 0))) k))
 (zCond (.l 0) (zSeq (zReg fun k => (zV 4 (vMv (.k (.int .i64 2)))) k)
 zRet) zSkip))))))))
 (zSeq (zReg fun k => (zV 4 (vMv (.k (.int .i64 (-1))))) k)
 zRet))), [.tmp (.v 4)]⟩
theorem G66_ok (fn : Nat → Option Func) (pu : Nat → Bool) (pr : Nat → List AV → Option (Heap → Option (Eff × Acc))) : ZOk ⟨Tryz.tyT, fn, pu, pr⟩ npT F66 (G66 ⟨Tryz.tyT, fn, pu, pr⟩) := ⟨by kernel_rfl, by kernel_rfl, by kernel_rfl, fun cy Y k => by kernel_rfl⟩
noncomputable def F67 : FFn := cF LV 0 [0, 1, 6, 2, 3, 4, 5, 12] Tryz.f67
noncomputable def G67 (E : Env) : ZFn := ⟨54, [0, 1, 6, 2, 3, 4, 5, 12], fun cy Y fuel =>
 (zSeq (zReg fun k => (zStep E (cy Y) ⟨.box 29 (.v 0), (.var 2), none, false, 0, (some 0)⟩) ((zV 7 (vMv (.k (.bool false)))) k))
 (zSeq (zReg fun k => (zG (.v 1) false .push (zP (vFieldAddr 0 (.v 2)))) ((zG (.v 1) false .push (zL 1 false (.l 0))) ((zG (.v 1) false .push (zP (vInt E fEql .eql 24 false true (.l 0) (.k (.int .u64 0))))) ((zP (vPick (.v 1) (.k (.bool true)) (.l 0))) ((zG (.l 0) true .push (zP (vMv (.v 3)))) ((zG (.l 1) true .push (zP (vMv (.l 0)))) ((zG (.l 0) false .push (zP (vFieldAddr 1 (.v 2)))) ((zG (.l 1) false .push (zL 1 false (.l 0))) ((zG (.l 2) false .push (zP (vInt E fEql .eql 24 false true (.l 0) (.k (.int .u64 0))))) ((zG (.l 5) true .push (zP (vPick (.l 3) (.k (.bool true)) (.l 0)))) ((zP (vPick (.l 6) (.l 0) (.k (.bool false)))) ((zG (.l 0) true .push (zP (vMv (.v 4)))) ((zG (.l 1) true .push (zP (vMv (.l 0)))) ((zG (.l 0) false .push (zP (vFieldAddr 2 (.v 2)))) ((zG (.l 1) false .push (zL 1 false (.l 0))) ((zG (.l 2) false .push (zP (vLenL (.l 0)))) ((zG (.l 3) false .push (zP (vInt E fEql .eql 3 false true (.l 0) (.k (.int .i64 0))))) ((zG (.l 6) true .push (zP (vPick (.l 4) (.k (.bool true)) (.l 0)))) ((zP (vPick (.l 7) (.l 0) (.k (.bool false)))) ((zG (.l 0) true .push (zP (vMv (.v 5)))) ((zG (.l 1) true .push (zP (vMv (.l 0)))) ((zG (.l 0) false .push (zP (vFieldAddr 3 (.v 2)))) ((zG (.l 1) false .push (zL 1 false (.l 0))) ((zG (.l 2) false .push (zP (vLenL (.l 0)))) ((zG (.l 3) false .push (zP (vInt E fEql .eql 3 false true (.l 0) (.k (.int .i64 0))))) ((zG (.l 6) true .push (zP (vPick (.l 4) (.k (.bool true)) (.l 0)))) ((zP (vPick (.l 7) (.l 0) (.k (.bool false)))) ((zG (.l 0) true .push (zP (vMv (.v 6)))) ((zG (.l 1) true .push (zP (vMv (.l 0)))) ((zG (.l 0) false .push (zP (vFieldAddr 4 (.v 2)))) ((zG (.l 1) false .push (zL 1 false (.l 0))) ((zG (.l 2) false .push (zP (vLenL (.l 0)))) ((zG (.l 3) false .push (zP (vInt E fEql .eql 3 false true (.l 0) (.k (.int .i64 0))))) ((zG (.l 6) true .push (zP (vPick (.l 4) (.k (.bool true)) (.l 0)))) ((zP (vPick (.l 7) (.l 0) (.k (.bool false)))) ((zV 7 (vMv (.l 0))) k))))))))))))))))))))))))))))))))))))
 zRet)), [.tmp (.v 7)]⟩
theorem G67_ok (fn : Nat → Option Func) (pu : Nat → Bool) (pr : Nat → List AV → Option (Heap → Option (Eff × Acc))) : ZOk ⟨Tryz.tyT, fn, pu, pr⟩ npT F67 (G67 ⟨Tryz.tyT, fn, pu, pr⟩) := ⟨by kernel_rfl, by kernel_rfl, by kernel_rfl, fun cy Y k => by kernel_rfl⟩
noncomputable def F70 : FFn := cF LV 0 [5, 0, 1, 4] Tryz.f70
noncomputable def G70 (E : Env) : ZFn := ⟨67, [5, 0, 1, 4], fun cy Y fuel =>
 (zSeq (zReg fun k => (zV 3 (vMv (.k (.bool false)))) k)
 (zSeq (zSeq (zReg fun k => (zV 0 (vMv (.k (.int .i64 0)))) k)
 (zBlock 0 (zLoop fuel (zSeq (zSeq (zReg fun k => (zP (vLenL (.v 1))) ((zP (vInt E fLss .lss 3 false false (.v 0) (.l 0))) ((zG (.l 0) true .push (zP (vMv (.v 0)))) ((zG (.l 1) true .push (zP (vMv (.v 2)))) ((zG (.l 2) true .push (zP (vLenL (.l 0)))) ((zG (.l 3) true .push (zP (vInt E fLss .lss 3 false false (.l 2) (.l 0)))) ((zP (vPick (.l 4) (.l 0) (.k (.bool false)))) k)))))))
 (zCond (.l 0) zSkip (zExit 0)))
 (zSeq (zBlock 1 (zSeq (zSeq (zDreg 0 fun n0 k => (zPD (vIndexAddr 2 (.v 1) (.v 0))) ((zPD (vFieldAddr 0 (.l 0))) ((zLD B30 4 1 false (.l 0)) ((zPD (vIndexAddr 2 (.v 2) (.v 0))) ((zPD (vFieldAddr 0 (.l 0))) ((zLD B30 9 1 false (.l 0)) ((zPD (vInt E fNeq .neq 3 false false (.l 3) (.l 0))) k)))))))
 (zCond (.l 0) (zSeq (zDreg 0 fun n0 k => (zPD (vIndexAddr 2 (.v 1) (.v 0))) ((zPD (vFieldAddr 0 (.l 0))) ((zLD B31 4 1 false (.l 0)) ((zPD (vIndexAddr 2 (.v 2) (.v 0))) ((zPD (vFieldAddr 0 (.l 0))) ((zLD B31 9 1 false (.l 0)) ((zPD (vInt E fLss .lss 3 false false (.l 3) (.l 0))) ((zVD 3 (vMv (.l 0))) k))))))))
 zRet) zSkip))
 (zSeq (zDreg 0 fun n0 k => (zPD (vIndexAddr 2 (.v 1) (.v 0))) ((zPD (vFieldAddr 1 (.l 0))) ((zLD B30 4 1 false (.l 0)) ((zPD (vIndexAddr 2 (.v 2) (.v 0))) ((zPD (vFieldAddr 1 (.l 0))) ((zLD B30 9 1 false (.l 0)) ((zPD (vInt E fNeq .neq 24 false false (.l 3) (.l 0))) k)))))))
 (zCond (.l 0) (zSeq (zDreg 0 fun n0 k => (zPD (vIndexAddr 2 (.v 1) (.v 0))) ((zPD (vFieldAddr 1 (.l 0))) ((zLD B31 4 1 false (.l 0)) ((zPD (vIndexAddr 2 (.v 2) (.v 0))) ((zPD (vFieldAddr 1 (.l 0))) ((zLD B31 9 1 false (.l 0)) ((zPD (vInt E fLss .lss 24 false false (.l 3) (.l 0))) ((zVD 3 (vMv (.l 0))) k))))))))
 zRet) zSkip))))
 (zReg fun k => (zP (vMv (.v 0))) ((zP (vInt E fAdd .add 3 false true (.l 0) (.k (.int .i64 1)))) ((zV 0 (vMv (.l 0))) k))))))))
 (zSeq (zReg fun k => (zP (vLenL (.v 1))) ((zP (vLenL (.v 2))) ((zP (vInt E fLss .lss 3 false false (.l 1) (.l 0))) ((zV 3 (vMv (.l 0))) k))))
 zRet))), [.tmp (.v 3)]⟩
theorem G70_ok (fn : Nat → Option Func) (pu : Nat → Bool) (pr : Nat → List AV → Option (Heap → Option (Eff × Acc))) : ZOk ⟨Tryz.tyT, fn, pu, pr⟩ npT F70 (G70 ⟨Tryz.tyT, fn, pu, pr⟩) := ⟨by kernel_rfl, by kernel_rfl, by kernel_rfl, fun cy Y k => by kernel_rfl⟩
noncomputable def F71 : FFn := cF LV 0 [0, 1, 5, 6, 4] Tryz.f71
noncomputable def G71 (E : Env) : ZFn := ⟨22, [0, 1, 5, 6, 4], fun cy Y fuel =>
 (zSeq (zReg fun k => (zV 4 (vMv (.k (.int .i64 0)))) k)
 (zSeq (zReg fun k => (zCall (cy Y) 82 [(.v 0), (.v 1)] .push) ((zCall (cy Y) 82 [(.v 1), (.v 0)] .push) ((zV 2 (vMv (.l 1))) ((zV 3 (vMv (.l 0))) k))))
 (zSeq (zBlock 0 (zSeq (zReg fun k => (zG (.v 2) true .push (zP (vMv (.v 3)))) ((zP (vPick (.v 2) (.l 0) (.k (.bool false)))) ((zP (vMv (.l 0))) k)))
 (zCond (.l 0) (zSeq (zReg fun k => (zV 4 (vMv (.k (.int .i64 0)))) k)
 zRet) (zSeq (zReg fun k => (zP (vMv (.v 2))) k)
 (zCond (.l 0) (zSeq (zReg fun k => (zV 4 (vMv (.k (.int .i64 (-1))))) k)
 zRet) (zSeq (zReg fun k => (zP (vMv (.v 3))) k)
 (zCond (.l 0) (zSeq (zReg fun k => (zV 4 (vMv (.k (.int .i64 1)))) k)
 zRet) zSkip)))))))
 (zSeq (zReg fun k => (zV 4 (vMv (.k (.int .i64 2)))) k)
 zRet)))), [.tmp (.v 4)]⟩
theorem G71_ok (fn : Nat → Option Func) (pu : Nat → Bool) (pr : Nat → List AV → Option (Heap → Option (Eff × Acc))) : ZOk ⟨Tryz.tyT, fn, pu, pr⟩ npT F71 (G71 ⟨Tryz.tyT, fn, pu, pr⟩) := ⟨by kernel_rfl, by kernel_rfl, by kernel_rfl, fun cy Y k => by kernel_rfl⟩
noncomputable def F72 : FFn := cF LV 0 [0, 8, 7, 1, 5, 4] Tryz.f72
noncomputable def G72 (E : Env) : ZFn := ⟨19, [0, 8, 7, 1, 5, 4], fun cy Y fuel =>
 (zSeq (zReg fun k => (zV 5 (vMv (.k (.int .i64 0)))) k)
 (zSeq (zSeq (zReg fun k => (zV 2 (vLenL (.v 0))) ((zV 1 (vMv (.k (.int .i64 0)))) k))
 (zBlock 0 (zLoop fuel (zSeq (zReg fun k => (zP (vInt E fLss .lss 3 false false (.v 1) (.v 2))) k)
 (zSeq (zCond (.l 0) zSkip (zExit 0))
 (zSeq (zBlock 1 (zSeq (zReg fun k => (zV 4 (vMv (.v 1))) k)
 (zSeq (zReg fun k => (zP (vIndexAddr 2 (.v 0) (.v 4))) ((zL 2 true (.l 0)) ((zStep E (cy Y) ⟨.callv (.v 3) [(.l 0)], .push, none, false, 5, (some 0)⟩) k)))
 (zCond (.l 0) (zSeq (zReg fun k => (zV 5 (vMv (.v 4))) k)
 zRet) zSkip))))
 (zReg fun k => (zP (vInt E fAdd .add 3 false true (.v 1) (.k (.int .i64 1)))) ((zV 1 (vMv (.l 0))) k))))))))
 (zSeq (zReg fun k => (zV 5 (vMv (.k (.int .i64 (-1))))) k)
 zRet))), [.tmp (.v 5)]⟩
theorem G72_ok (fn : Nat → Option Func) (pu : Nat → Bool) (pr : Nat → List AV → Option (Heap → Option (Eff × Acc))) : ZOk ⟨Tryz.tyT, fn, pu, pr⟩ npT F72 (G72 ⟨Tryz.tyT, fn, pu, pr⟩) := ⟨by kernel_rfl, by kernel_rfl, by kernel_rfl, fun cy Y k => by kernel_rfl⟩
noncomputable def F73 : FFn := cF LV 0 [1, 8, 2, 9, 3, 0] Tryz.f73
noncomputable def G73 (E : Env) : ZFn := ⟨53, [1, 8, 2, 9, 3, 0], fun cy Y fuel =>
 (zSeq (zReg fun k => (zP (vInt E fAdd .add 3 false true (.v 0) (.k (.int .i64 1)))) ((zV 1 (vMv (.l 0))) k))
 (zBlock 0 (zLoop fuel (zSeq (zSeq (zReg fun k => (zP (vInt E fLss .lss 3 false false (.v 1) (.v 2))) k)
 (zCond (.l 0) zSkip (zExit 0)))
 (zSeq (zBlock 1 (zSeq (zReg fun k => (zV 3 (vMv (.v 1))) k)
 (zBlock 2 (zLoop fuel (zSeq (zSeq (zDreg 1 fun n0 k => (zPD (vInt E fGtr .gtr 3 false false (.v 3) (.v 0))) ((zGD (.l 0) true .push (zPD (vMv (.v 4)))) ((zGD (.l 1) true .push (zPD (vMv (.v 5)))) ((zGD (.l 2) true .push (zPD (vMv (.v 3)))) ((zGD (.l 3) true .push (zPD (vIndexAddr 2 (.l 1) (.l 0)))) ((zGD (.l 4) true .push (zLD B32 8 2 true (.l 0))) ((zGD (.l 5) true .push (zPD (vMv (.v 5)))) ((zGD (.l 6) true .push (zPD (vMv (.v 3)))) ((zGD (.l 7) true .push (zPD (vInt E fSub .sub 3 false true (.l 0) (.k (.int .i64 1))))) ((zGD (.l 8) true .push (zPD (vIndexAddr 2 (.l 2) (.l 0)))) ((zGD (.l 9) true .push (zLD B32 13 2 true (.l 0))) ((zGD (.l 10) true .push (zStepD E (cy Y) B32 n0 ⟨.callv (.l 9) [(.l 5), (.l 0)], .push, none, false, 14, (some 0)⟩)) ((zGD (.l 11) true .push (zPD (vInt E fLss .lss 3 false true (.l 0) (.k (.int .i64 0))))) ((zPD (vPick (.l 12) (.l 0) (.k (.bool false)))) k))))))))))))))
 (zCond (.l 0) zSkip (zExit 2)))
 (zSeq (zBlock 3 (zDreg 0 fun n0 k => (zPD (vInt E fSub .sub 3 false true (.v 3) (.k (.int .i64 1)))) ((zPD (vInt E fSub .sub 3 false true (.v 3) (.k (.int .i64 1)))) ((zPD (vIndexAddr 2 (.v 5) (.l 0))) ((zLD B33 9 2 true (.l 0)) ((zPD (vIndexAddr 2 (.v 5) (.v 3))) ((zLD B33 13 2 true (.l 0)) ((zPD (vIndexAddr 2 (.v 5) (.v 3))) ((zStepD E (cy Y) B33 n0 ⟨.store 43 (.l 0) (.l 3), .none, none, false, 15, none⟩) ((zPD (vIndexAddr 2 (.v 5) (.l 6))) ((zStepD E (cy Y) B33 n0 ⟨.store 43 (.l 0) (.l 2), .none, none, false, 17, none⟩) k)))))))))))
 (zReg fun k => (zP (vMv (.v 3))) ((zP (vInt E fSub .sub 3 false true (.l 0) (.k (.int .i64 1)))) ((zV 3 (vMv (.l 0))) k)))))))))
 (zReg fun k => (zP (vMv (.v 1))) ((zP (vInt E fAdd .add 3 false true (.l 0) (.k (.int .i64 1)))) ((zV 1 (vMv (.l 0))) k)))))))), []⟩
theorem G73_ok (fn : Nat → Option Func) (pu : Nat → Bool) (pr : Nat → List AV → Option (Heap → Option (Eff × Acc))) : ZOk ⟨Tryz.tyT, fn, pu, pr⟩ npT F73 (G73 ⟨Tryz.tyT, fn, pu, pr⟩) := ⟨by kernel_rfl, by kernel_rfl, by kernel_rfl, fun cy Y k => by kernel_rfl⟩
noncomputable def F75 : FFn := cF LV 0 [0, 1, 2, 3, 25, 5, 4] Tryz.f75
noncomputable def G75 (E : Env) : ZFn := ⟨137, [0, 1, 2, 3, 25, 5, 4], fun cy Y fuel =>
 (zSeq (zReg fun k => (zStep E (cy Y) ⟨.box 37 (.v 0), (.var 2), none, false, 0, (some 0)⟩) ((zStep E (cy Y) ⟨.box 29 (.v 1), (.var 3), none, false, 1, (some 1)⟩) ((zV 6 (vMv (.k (.bool false)))) k)))
 (zSeq (zSeq (zReg fun k => (zP (vFieldAddr 0 (.v 2))) ((zL 1 false (.l 0)) ((zL 5 true (.v 3)) ((zCall (cy Y) 84 [(.l 1), (.l 0)] .push) ((zP (vNot (.l 0))) ((zG (.l 0) false .push (zP (vFieldAddr 4 (.v 3)))) ((zG (.l 1) false .push (zL 1 false (.l 0))) ((zG (.l 2) false .push (zP (vLenL (.l 0)))) ((zG (.l 3) false .push (zP (vInt E fGtr .gtr 3 false true (.l 0) (.k (.int .i64 40))))) ((zP (vPick (.l 4) (.k (.bool true)) (.l 0))) ((zG (.l 0) false .push (zP (vFieldAddr 3 (.v 3)))) ((zG (.l 1) false .push (zL 1 false (.l 0))) ((zG (.l 2) false .push (zP (vLenL (.l 0)))) ((zG (.l 3) false .push (zP (vInt E fGtr .gtr 3 false true (.l 0) (.k (.int .i64 40))))) ((zP (vPick (.l 4) (.k (.bool true)) (.l 0))) k)))))))))))))))
 (zCond (.l 0) (zSeq (zReg fun k => (zV 6 (vMv (.k (.bool false)))) k)
 zRet) zSkip))
 (zSeq (zReg fun k => (zStep E (cy Y) ⟨.mkFunc 85 [(.v 2)], .push, none, false, 0, none⟩) ((zStep E (cy Y) ⟨.alloc 113, (.var 5), none, false, 1, (some 0)⟩) ((zStep E (cy Y) ⟨.store 113 (.v 5) (.l 0), .none, none, false, 2, none⟩) k)))
 (zSeq (zSeq (zReg fun k => (zP (vFieldAddr 0 (.v 2))) ((zDstW (.var 4) (wLoad 1 false (.l 0))) k))
 (zBlock 0 (zSeq (zReg fun k => (zP (vInt E fEql .eql 3 false true (.v 4) (.k (.int .i64 1)))) ((zP (vMv (.l 0))) k))
 (zCond (.l 0) (zSeq (zReg fun k => (zV 6 (vMv (.k (.bool true)))) k)
 zRet) (zSeq (zReg fun k => (zP (vInt E fEql .eql 3 false true (.v 4) (.k (.int .i64 2)))) ((zP (vMv (.l 0))) k))
 (zCond (.l 0) (zSeq (zReg fun k => (zP (vFieldAddr 0 (.v 3))) ((zL 1 false (.l 0)) ((zP (vInt E (fGen .leq) .leq 24 false true (.l 0) (.k (.int .u64 1)))) ((zV 6 (vMv (.l 0))) k))))
 zRet) (zSeq (zReg fun k => (zP (vInt E fEql .eql 3 false true (.v 4) (.k (.int .i64 3)))) ((zP (vMv (.l 0))) k))
 (zCond (.l 0) (zSeq (zReg fun k => (zP (vFieldAddr 2 (.v 3))) ((zL 1 false (.l 0)) ((zCall (cy Y) 86 [(.l 0)] .push) ((zV 6 (vMv (.l 0))) k))))
 zRet) (zSeq (zReg fun k => (zP (vInt E fEql .eql 3 false true (.v 4) (.k (.int .i64 4)))) ((zP (vMv (.l 0))) k))
 (zCond (.l 0) (zSeq (zReg fun k => (zP (vFieldAddr 2 (.v 3))) ((zL 1 false (.l 0)) ((zCall (cy Y) 86 [(.l 0)] .push) ((zG (.l 0) true .push (zP (vFieldAddr 2 (.v 3)))) ((zG (.l 1) true .push (zL 1 false (.l 0))) ((zG (.l 2) true .push (zP (vLenL (.l 0)))) ((zG (.l 3) true .push (zP (vFieldAddr 4 (.v 3)))) ((zG (.l 4) true .push (zL 1 false (.l 0))) ((zG (.l 5) true .push (zP (vLenL (.l 0)))) ((zG (.l 6) true .push (zP (vInt E fEql .eql 3 false false (.l 3) (.l 0)))) ((zP (vPick (.l 7) (.l 0) (.k (.bool false)))) ((zG (.l 0) true .push (zP (vFieldAddr 4 (.v 3)))) ((zG (.l 1) true .push (zL 1 false (.l 0))) ((zG (.l 2) true .push (zStep E (cy Y) ⟨.mkFunc 88 [(.v 5), (.v 2)], .push, none, false, 15, none⟩)) ((zG (.l 3) true .push (zCall (cy Y) 87 [(.l 1), (.l 0)] .push)) ((zG (.l 4) true .push (zP (vNot (.l 0)))) ((zP (vPick (.l 5) (.l 0) (.k (.bool false)))) ((zV 6 (vMv (.l 0))) k))))))))))))))))))
 zRet) (zSeq (zReg fun k => (zP (vInt E fEql .eql 3 false true (.v 4) (.k (.int .i64 5)))) ((zP (vMv (.l 0))) k))
 (zCond (.l 0) (zSeq (zDreg 2 fun n0 k => (zPD (vFieldAddr 4 (.v 3))) ((zLD B34 1 1 false (.l 0)) ((zPD (vLenL (.l 0))) ((zPD (vInt E fEql .eql 3 false true (.l 0) (.k (.int .i64 2)))) ((zGD (.l 0) true .push (zPD (vFieldAddr 1 (.v 2)))) ((zGD (.l 1) true .push (zLD B34 6 1 false (.l 0))) ((zGD (.l 2) true .push (zPD (vIndexAddr 2 (.l 0) (.k (.int .i64 0))))) ((zGD (.l 3) true .push (zLD B34 8 2 true (.l 0))) ((zGD (.l 4) true .push (zPD (vFieldAddr 4 (.v 3)))) ((zGD (.l 5) true .push (zLD B34 10 1 false (.l 0))) ((zGD (.l 6) true .push (zPD (vIndexAddr 5 (.l 0) (.k (.int .i64 0))))) ((zGD (.l 7) true .push (zLD B34 12 5 true (.l 0))) ((zGD (.l 8) true .push (zCallD (cy Y) B34 13 75 [(.l 4), (.l 0)] .push)) ((zPD (vPick (.l 9) (.l 0) (.k (.bool false)))) ((zGD (.l 0) true .push (zPD (vFieldAddr 1 (.v 2)))) ((zGD (.l 1) true .push (zLD B34 17 1 false (.l 0))) ((zGD (.l 2) true .push (zPD (vIndexAddr 2 (.l 0) (.k (.int .i64 1))))) ((zGD (.l 3) true .push (zLD B34 19 2 true (.l 0))) ((zGD (.l 4) true .push (zPD (vFieldAddr 4 (.v 3)))) ((zGD (.l 5) true .push (zLD B34 21 1 false (.l 0))) ((zGD (.l 6) true .push (zPD (vIndexAddr 5 (.l 0) (.k (.int .i64 1))))) ((zGD (.l 7) true .push (zLD B34 23 5 true (.l 0))) ((zGD (.l 8) true .push (zCallD (cy Y) B34 24 75 [(.l 4), (.l 0)] .push)) ((zPD (vPick (.l 9) (.l 0) (.k (.bool false)))) ((zVD 6 (vMv (.l 0))) k)))))))))))))))))))))))))
 zRet) (zSeq (zReg fun k => (zP (vInt E fEql .eql 3 false true (.v 4) (.k (.int .i64 6)))) ((zP (vMv (.l 0))) k))
 (zCond (.l 0) (zSeq (zReg fun k => (zL 5 true (.v 3)) ((zCall (cy Y) 89 [(.l 0)] .push) ((zV 6 (vMv (.l 0))) k)))
 zRet) (zSeq (zReg fun k => (zP (vInt E fEql .eql 3 false true (.v 4) (.k (.int .i64 7)))) ((zP (vMv (.l 0))) k))
 (zCond (.l 0) (zSeq (zReg fun k => (zP (vFieldAddr 3 (.v 3))) ((zL 1 false (.l 0)) ((zP (vLenL (.l 0))) ((zP (vInt E fEql .eql 3 false true (.l 0) (.k (.int .i64 0)))) ((zG (.l 0) false .push (zP (vFieldAddr 3 (.v 3)))) ((zG (.l 1) false .push (zL 1 false (.l 0))) ((zG (.l 2) false .push (zP (vLenL (.l 0)))) ((zG (.l 3) false .push (zP (vInt E fEql .eql 3 false true (.l 0) (.k (.int .i64 1))))) ((zG (.l 4) false .push (zP (vMv (.l 0)))) ((zG (.l 0) true .push (zP (vFieldAddr 3 (.v 3)))) ((zG (.l 1) true .push (zL 1 false (.l 0))) ((zG (.l 2) true .push (zP (vIndexAddr 1 (.l 0) (.k (.int .i64 0))))) ((zG (.l 3) true .push (zL 1 false (.l 0))) ((zG (.l 4) true .push (zP (vLenL (.l 0)))) ((zG (.l 5) true .push (zP (vInt E fGtr .gtr 3 false true (.l 0) (.k (.int .i64 0))))) ((zG (.l 11) false .push (zP (vPick (.l 6) (.l 0) (.k (.bool false))))) ((zG (.l 12) false .push (zP (vMv (.l 0)))) ((zG (.l 0) true .push (zP (vFieldAddr 3 (.v 3)))) ((zG (.l 1) true .push (zL 1 false (.l 0))) ((zG (.l 2) true .push (zP (vIndexAddr 1 (.l 0) (.k (.int .i64 0))))) ((zG (.l 3) true .push (zL 1 false (.l 0))) ((zG (.l 4) true .push (zCall (cy Y) 90 [(.l 0)] .push)) ((zG (.l 18) false .push (zP (vPick (.l 5) (.l 0) (.k (.bool false))))) ((zP (vPick (.l 19) (.k (.bool true)) (.l 0))) ((zV 6 (vMv (.l 0))) k)))))))))))))))))))))))))
 zRet) zSkip))))))))))))))))
 (zSeq (zReg fun k => (zP (vFieldAddr 3 (.v 3))) ((zL 1 false (.l 0)) ((zP (vLenL (.l 0))) ((zP (vFieldAddr 4 (.v 3))) ((zL 1 false (.l 0)) ((zP (vLenL (.l 0))) ((zP (vInt E fEql .eql 3 false false (.l 3) (.l 0))) ((zG (.l 0) true .push (zP (vFieldAddr 3 (.v 3)))) ((zG (.l 1) true .push (zL 1 false (.l 0))) ((zG (.l 2) true .push (zCall (cy Y) 91 [(.l 0)] .push)) ((zP (vPick (.l 3) (.l 0) (.k (.bool false)))) ((zG (.l 0) true .push (zP (vFieldAddr 4 (.v 3)))) ((zG (.l 1) true .push (zL 1 false (.l 0))) ((zG (.l 2) true .push (zStep E (cy Y) ⟨.mkFunc 92 [(.v 5)], .push, none, false, 15, none⟩)) ((zG (.l 3) true .push (zCall (cy Y) 87 [(.l 1), (.l 0)] .push)) ((zG (.l 4) true .push (zP (vNot (.l 0)))) ((zP (vPick (.l 5) (.l 0) (.k (.bool false)))) ((zV 6 (vMv (.l 0))) k))))))))))))))))))
 zRet))))), [.tmp (.v 6)]⟩
theorem G75_ok (fn : Nat → Option Func) (pu : Nat → Bool) (pr : Nat → List AV → Option (Heap → Option (Eff × Acc))) : ZOk ⟨Tryz.tyT, fn, pu, pr⟩ npT F75 (G75 ⟨Tryz.tyT, fn, pu, pr⟩) := ⟨by kernel_rfl, by kernel_rfl, by kernel_rfl, fun cy Y k => by kernel_rfl⟩
noncomputable def F76 : FFn := cF LV 0 [2, 1, 10, 0, 3, 8, 12, 11, 9, 13, 15, 14, 16, 17, 18] Tryz.f76
noncomputable def G76 (E : Env) : ZFn := ⟨134, [2, 1, 10, 0, 3, 8, 12, 11, 9, 13, 15, 14, 16, 17, 18], fun cy Y fuel =>
 (zSeq (zReg fun k => (zV 5 (vMv (.k (.bool true)))) k)
 (zSeq (zReg fun k => (zV 8 (vMv (.k (.bool true)))) k)
 (zBlock 0 (zLoop fuel (zBlock 1 (zSeq (zReg fun k => (zP (vInt E fSub .sub 3 false false (.v 0) (.v 1))) ((zV 2 (vMv (.l 0))) k))
 (zSeq (zSeq (zReg fun k => (zP (vInt E (fGen .leq) .leq 3 false true (.v 2) (.k (.int .i64 12)))) k)
 (zCond (.l 0) (zSeq (zReg fun k => (zCall (cy Y) 93 [(.v 3), (.v 1), (.v 0)] .push) k)
 zRet) zSkip))
 (zSeq (zSeq (zReg fun k => (zP (vInt E fEql .eql 3 false true (.v 4) (.k (.int .i64 0)))) k)
 (zCond (.l 0) (zSeq (zReg fun k => (zCall (cy Y) 94 [(.v 3), (.v 1), (.v 0)] .push) k)
 zRet) zSkip))
 (zSeq (zSeq (zReg fun k => (zP (vNot (.v 5))) k)
 (zCond (.l 0) (zSeq (zReg fun k => (zCall (cy Y) 95 [(.v 3), (.v 1), (.v 0)] .push) k)
 (zReg fun k => (zP (vMv (.v 4))) ((zP (vInt E fSub .sub 3 false true (.l 0) (.k (.int .i64 1)))) ((zV 4 (vMv (.l 0))) k)))) zSkip))
 (zSeq (zReg fun k => (zCall (cy Y) 96 [(.v 3), (.v 1), (.v 0)] .push) ((zP (vExtract 0 (.l 0))) ((zP (vExtract 1 (.l 1))) ((zV 7 (vMv (.l 1))) ((zV 6 (vMv (.l 0))) k)))))
 (zSeq (zSeq (zReg fun k => (zP (vInt E fEql .eql 117 false true (.v 6) (.k (.int .i64 2)))) k)
 (zCond (.l 0) (zSeq (zReg fun k => (zCall (cy Y) 97 [(.v 3), (.v 1), (.v 0)] .push) k)
 (zSeq (zReg fun k => (zP (vInt E fSub .sub 3 false true (.v 0) (.k (.int .i64 1)))) ((zP (vMv (.v 7))) ((zP (vInt E fSub .sub 3 false false (.l 0) (.v 1))) ((zP (vInt E fSub .sub 3 false false (.l 2) (.l 0))) ((zV 7 (vMv (.l 0))) k)))))
 (zReg fun k => (zV 6 (vMv (.k (.int .i64 1)))) k))) zSkip))
 (zSeq (zSeq (zReg fun k => (zG (.v 5) true .push (zP (vMv (.v 8)))) ((zP (vPick (.v 5) (.l 0) (.k (.bool false)))) ((zG (.l 0) true .push (zP (vMv (.v 6)))) ((zG (.l 1) true .push (zP (vInt E fEql .eql 117 false true (.l 0) (.k (.int .i64 1))))) ((zP (vPick (.l 2) (.l 0) (.k (.bool false)))) k)))))
 (zCond (.l 0) (zSeq (zReg fun k => (zCall (cy Y) 98 [(.v 3), (.v 1), (.v 0)] .push) k)
 (zCond (.l 0) zRet zSkip)) zSkip))
 (zSeq (zSeq (zDreg 1 fun n0 k => (zPD (vInt E fGtr .gtr 3 false true (.v 1) (.k (.int .i64 0)))) ((zGD (.l 0) true .push (zPD (vMv (.v 3)))) ((zGD (.l 1) true .push (zPD (vMv (.v 1)))) ((zGD (.l 2) true .push (zPD (vInt E fSub .sub 3 false true (.l 0) (.k (.int .i64 1))))) ((zGD (.l 3) true .push (zPD (vIndexAddr 1 (.l 2) (.l 0)))) ((zGD (.l 4) true .push (zLD B35 7 1 false (.l 0))) ((zGD (.l 5) true .push (zPD (vMv (.v 3)))) ((zGD (.l 6) true .push (zPD (vMv (.v 7)))) ((zGD (.l 7) true .push (zPD (vIndexAddr 1 (.l 1) (.l 0)))) ((zGD (.l 8) true .push (zLD B35 11 1 false (.l 0))) ((zGD (.l 9) true .push (zCallD (cy Y) B35 12 99 [(.l 4), (.l 0)] .push)) ((zGD (.l 10) true .push (zPD (vNot (.l 0)))) ((zPD (vPick (.l 11) (.l 0) (.k (.bool false)))) k)))))))))))))
 (zCond (.l 0) (zSeq (zReg fun k => (zCall (cy Y) 100 [(.v 3), (.v 1), (.v 0), (.v 7)] .push) ((zV 9 (vMv (.l 0))) k))
 (zSeq (zReg fun k => (zV 1 (vMv (.v 9))) k)
 (zExit 1))) zSkip))
 (zSeq (zReg fun k => (zCall (cy Y) 101 [(.v 3), (.v 1), (.v 0), (.v 7)] .push) ((zP (vExtract 0 (.l 0))) ((zP (vExtract 1 (.l 1))) ((zV 11 (vMv (.l 1))) ((zV 10 (vMv (.l 0))) k)))))
 (zSeq (zReg fun k => (zV 8 (vMv (.v 10))) k)
 (zSeq (zReg fun k => (zP (vInt E fSub .sub 3 false false (.v 11) (.v 1))) ((zP (vInt E fSub .sub 3 false false (.v 0) (.v 11))) ((zV 12 (vMv (.l 1))) ((zV 13 (vMv (.l 0))) k))))
 (zSeq (zReg fun k => (zP (vInt E (fGen .quo) .quo 3 false true (.v 2) (.k (.int .i64 8)))) ((zV 14 (vMv (.l 0))) k))
 (zSeq (zReg fun k => (zP (vInt E fLss .lss 3 false false (.v 12) (.v 13))) k)
 (zCond (.l 0) (zSeq (zReg fun k => (zP (vInt E (fGen .geq) .geq 3 false false (.v 12) (.v 14))) ((zV 5 (vMv (.l 0))) k))
 (zSeq (zReg fun k => (zCall (cy Y) 76 [(.v 3), (.v 1), (.v 11), (.v 4)] .push) k)
 (zReg fun k => (zP (vInt E fAdd .add 3 false true (.v 11) (.k (.int .i64 1)))) ((zV 1 (vMv (.l 0))) k)))) (zSeq (zReg fun k => (zP (vInt E (fGen .geq) .geq 3 false false (.v 13) (.v 14))) ((zV 5 (vMv (.l 0))) k))
 (zSeq (zReg fun k => (zP (vInt E fAdd .add 3 false true (.v 11) (.k (.int .i64 1)))) ((zCall (cy Y) 76 [(.v 3), (.l 0), (.v 0), (.v 4)] .push) k))
 (zReg fun k => (zV 0 (vMv (.v 11))) k)))))))))))))))))))))), []⟩
theorem G76_ok (fn : Nat → Option Func) (pu : Nat → Bool) (pr : Nat → List AV → Option (Heap → Option (Eff × Acc))) : ZOk ⟨Tryz.tyT, fn, pu, pr⟩ npT F76 (G76 ⟨Tryz.tyT, fn, pu, pr⟩) := ⟨by kernel_rfl, by kernel_rfl, by kernel_rfl, fun cy Y k => by kernel_rfl⟩
noncomputable def F77 : FFn := cF LV 0 [0, 2] Tryz.f77
noncomputable def G77 (E : Env) : ZFn := ⟨8, [0, 2], fun cy Y fuel =>
 (zSeq (zReg fun k => (zV 1 (vMv (.k (.int .i64 0)))) k)
 (zSeq (zCond (.k (.bool false)) (zSeq (zReg fun k => (zP (vConv .u32 (.v 0))) ((zCall (cy Y) 102 [(.l 0)] .push) ((zV 1 (vMv (.l 0))) k)))
 zRet) zSkip)
 (zSeq (zReg fun k => (zCall (cy Y) 103 [(.v 0)] .push) ((zV 1 (vMv (.l 0))) k))
 zRet))), [.tmp (.v 1)]⟩
theorem G77_ok (fn : Nat → Option Func) (pu : Nat → Bool) (pr : Nat → List AV → Option (Heap → Option (Eff × Acc))) : ZOk ⟨Tryz.tyT, fn, pu, pr⟩ npT F77 (G77 ⟨Tryz.tyT, fn, pu, pr⟩) := ⟨by kernel_rfl, by kernel_rfl, by kernel_rfl, fun cy Y k => by kernel_rfl⟩
noncomputable def F78 : FFn := cF LV 0 [0, 1, 2, 3, 4] Tryz.f78
noncomputable def G78 (E : Env) : ZFn := ⟨38, [0, 1, 2, 3, 4], fun cy Y fuel =>
 (zSeq (zReg fun k => (zStep E (cy Y) ⟨.box 29 (.v 0), (.var 2), none, false, 0, (some 0)⟩) ((zStep E (cy Y) ⟨.box 29 (.v 1), (.var 3), none, false, 1, (some 1)⟩) ((zV 4 (vMv (.k (.bool false)))) k)))
 (zSeq (zReg fun k => (zP (vFieldAddr 0 (.v 2))) ((zL 1 false (.l 0)) ((zP (vFieldAddr 0 (.v 3))) ((zL 1 false (.l 0)) ((zP (vInt E fEql .eql 24 false false (.l 2) (.l 0))) ((zG (.l 0) true .push (zP (vFieldAddr 1 (.v 2)))) ((zG (.l 1) true .push (zL 1 false (.l 0))) ((zG (.l 2) true .push (zP (vFieldAddr 1 (.v 3)))) ((zG (.l 3) true .push (zL 1 false (.l 0))) ((zG (.l 4) true .push (zP (vInt E fEql .eql 24 false false (.l 2) (.l 0)))) ((zP (vPick (.l 5) (.l 0) (.k (.bool false)))) ((zG (.l 0) true .push (zP (vFieldAddr 2 (.v 2)))) ((zG (.l 1) true .push (zL 1 false (.l 0))) ((zG (.l 2) true .push (zP (vFieldAddr 2 (.v 3)))) ((zG (.l 3) true .push (zL 1 false (.l 0))) ((zG (.l 4) true .push (zCall (cy Y) 104 [(.l 2), (.l 0)] .push)) ((zP (vPick (.l 5) (.l 0) (.k (.bool false)))) ((zG (.l 0) true .push (zP (vFieldAddr 3 (.v 2)))) ((zG (.l 1) true .push (zL 1 false (.l 0))) ((zG (.l 2) true .push (zP (vFieldAddr 3 (.v 3)))) ((zG (.l 3) true .push (zL 1 false (.l 0))) ((zG (.l 4) true .push (zCall (cy Y) 105 [(.l 2), (.l 0), (.k (.clo 106 []))] .push)) ((zP (vPick (.l 5) (.l 0) (.k (.bool false)))) ((zG (.l 0) true .push (zP (vFieldAddr 4 (.v 2)))) ((zG (.l 1) true .push (zL 1 false (.l 0))) ((zG (.l 2) true .push (zP (vFieldAddr 4 (.v 3)))) ((zG (.l 3) true .push (zL 1 false (.l 0))) ((zG (.l 4) true .push (zCall (cy Y) 107 [(.l 2), (.l 0), (.k (.clo 78 []))] .push)) ((zP (vPick (.l 5) (.l 0) (.k (.bool false)))) ((zV 4 (vMv (.l 0))) k))))))))))))))))))))))))))))))
 zRet)), [.tmp (.v 4)]⟩
theorem G78_ok (fn : Nat → Option Func) (pu : Nat → Bool) (pr : Nat → List AV → Option (Heap → Option (Eff × Acc))) : ZOk ⟨Tryz.tyT, fn, pu, pr⟩ npT F78 (G78 ⟨Tryz.tyT, fn, pu, pr⟩) := ⟨by kernel_rfl, by kernel_rfl, by kernel_rfl, fun cy Y k => by kernel_rfl⟩
noncomputable def F79 : FFn := cF LV 0 [0, 1, 2] Tryz.f79
noncomputable def G79 (E : Env) : ZFn := ⟨9, [0, 1, 2], fun cy Y fuel =>
 (zSeq (zReg fun k => (zStep E (cy Y) ⟨.box 37 (.v 0), (.var 1), none, false, 0, (some 0)⟩) ((zStep E (cy Y) ⟨.alloc 29, (.var 2), none, false, 1, (some 1)⟩) k))
 (zSeq (zSeq (zReg fun k => (zL 2 true (.v 1)) ((zCall (cy Y) 13 [(.l 0)] .push) ((zP (vNot (.l 0))) k)))
 (zCond (.l 0) (zSeq (zReg fun k => (zStep E (cy Y) ⟨.build 29 [], .push, none, false, 0, none⟩) ((zStep E (cy Y) ⟨.store 29 (.v 2) (.l 0), .none, none, false, 1, none⟩) k))
 zRet) zSkip))
 (zSeq (zReg fun k => (zL 2 true (.v 1)) ((zCall (cy Y) 108 [(.l 0)] .push) ((zStep E (cy Y) ⟨.store 29 (.v 2) (.l 0), .none, none, false, 2, none⟩) k)))
 zRet))), [.cell (.v 2) 29]⟩
theorem G79_ok (fn : Nat → Option Func) (pu : Nat → Bool) (pr : Nat → List AV → Option (Heap → Option (Eff × Acc))) : ZOk ⟨Tryz.tyT, fn, pu, pr⟩ npT F79 (G79 ⟨Tryz.tyT, fn, pu, pr⟩) := ⟨by kernel_rfl, by kernel_rfl, by kernel_rfl, fun cy Y k => by kernel_rfl⟩
noncomputable def F80 : FFn := cF LV 0 [0, 1, 2, 3, 4, 5, 6, 7] Tryz.f80
noncomputable def G80 (E : Env) : ZFn := ⟨26, [0, 1, 2, 3, 4, 5, 6, 7], fun cy Y fuel =>
 (zSeq (zReg fun k => (zStep E (cy Y) ⟨.box 37 (.v 0), (.var 3), none, false, 0, (some 0)⟩) ((zStep E (cy Y) ⟨.box 29 (.v 1), (.var 4), none, false, 1, (some 1)⟩) ((zStep E (cy Y) ⟨.box 29 (.v 2), (.var 5), none, false, 2, (some 2)⟩) ((zStep E (cy Y) ⟨.alloc 29, (.var 6), none, false, 3, (some 3)⟩) ((zV 7 (vMv (.k .nilIface))) k)))))
 (zSeq (zSeq (zReg fun k => (zL 2 true (.v 3)) ((zL 5 true (.v 4)) ((zCall (cy Y) 55 [(.l 1), (.l 0)] .push) ((zP (vNot (.l 0))) ((zG (.l 0) false .push (zL 2 true (.v 3))) ((zG (.l 1) false .push (zL 5 true (.v 5))) ((zG (.l 2) false .push (zCall (cy Y) 55 [(.l 1), (.l 0)] .push)) ((zG (.l 3) false .push (zP (vNot (.l 0)))) ((zP (vPick (.l 4) (.k (.bool true)) (.l 0))) k)))))))))
 (zCond (.l 0) (zSeq (zReg fun k => (zStep E (cy Y) ⟨.build 29 [], .push, none, false, 0, none⟩) ((zStep E (cy Y) ⟨.mkIface 51 (.k (.int .i64 14)), .push, none, false, 1, none⟩) ((zStep E (cy Y) ⟨.store 29 (.v 6) (.l 1), .none, none, false, 2, none⟩) ((zV 7 (vMv (.l 0))) k))))
 zRet) zSkip))
 (zSeq (zReg fun k => (zL 2 true (.v 3)) ((zL 5 true (.v 4)) ((zL 5 true (.v 5)) ((zCall (cy Y) 109 [(.l 2), (.l 1), (.l 0)] .push) ((zP (vExtract 0 (.l 0))) ((zP (vExtract 1 (.l 1))) ((zStep E (cy Y) ⟨.store 29 (.v 6) (.l 1), .none, none, false, 6, none⟩) ((zV 7 (vMv (.l 0))) k))))))))
 zRet))), [.cell (.v 6) 29, .tmp (.v 7)]⟩
theorem G80_ok (fn : Nat → Option Func) (pu : Nat → Bool) (pr : Nat → List AV → Option (Heap → Option (Eff × Acc))) : ZOk ⟨Tryz.tyT, fn, pu, pr⟩ npT F80 (G80 ⟨Tryz.tyT, fn, pu, pr⟩) := ⟨by kernel_rfl, by kernel_rfl, by kernel_rfl, fun cy Y k => by kernel_rfl⟩
noncomputable def F81 : FFn := cF LV 0 [1, 10, 9, 8, 2, 4, 5, 0, 6, 7] Tryz.f81
noncomputable def xbody81 (E : Env) (call : CallTT) : CZ := (zSeq (zReg fun k => (zP (vInt E fLss .lss 3 false false (.v 1) (.v 2))) k)
 (zSeq (zCond (.l 0) zSkip (zExit 0))
 (zSeq (zBlock 1 (zSeq (zReg fun k => (zP (vIndexAddr 5 (.v 3) (.v 1))) ((zL 5 true (.l 0)) ((zStep E call ⟨.alloc 29, (.var 6), none, false, 3, (some 0)⟩) ((zV 5 (vMv (.v 1))) ((zStep E call ⟨.store 29 (.v 6) (.l 0), .none, none, false, 5, none⟩) k)))))
 (zSeq (zReg fun k => (zL 1 false (.v 4)) ((zL 5 true (.v 6)) ((zStep E call ⟨.callv (.l 1) [(.v 5), (.l 0)], .push, none, false, 3, (some 0)⟩) ((zP (vExtract 0 (.l 0))) ((zP (vExtract 1 (.l 1))) ((zStep E call ⟨.alloc 29, (.var 8), none, false, 7, (some 1)⟩) ((zStep E call ⟨.store 29 (.v 8) (.l 1), .none, none, false, 8, none⟩) ((zV 9 (vMv (.l 0))) k))))))))
 (zSeq (zReg fun k => (zL 5 true (.v 8)) ((zStep E call ⟨.callv (.v 7) [(.l 0), (.v 9)], .push, none, false, 3, (some 0)⟩) ((zP (vNot (.l 0))) ((zG (.l 0) false .push (zP (vMv (.v 9)))) ((zG (.l 1) false .push (zP (vInt E fNeq .neq 32 false true (.l 0) (.k .nilIface)))) ((zP (vPick (.l 2) (.k (.bool true)) (.l 0))) k))))))
 (zCond (.l 0) zRet zSkip)))))
 (zReg fun k => (zP (vInt E fAdd .add 3 false true (.v 1) (.k (.int .i64 1)))) ((zV 1 (vMv (.l 0))) k)))))
noncomputable def G81 (E : Env) : ZFn := ⟨32, [1, 10, 9, 8, 2, 4, 5, 0, 6, 7], fun cy Y fuel =>
 (zSeq (zReg fun k => (zDstW (.var 3) (wLoad 1 false (.v 0))) ((zV 2 (vLenL (.v 3))) ((zV 1 (vMv (.k (.int .i64 0)))) k)))
 (zBlock 0 (zLoop fuel (xbody81 E (cy Y))))), []⟩
theorem G81_ok (fn : Nat → Option Func) (pu : Nat → Bool) (pr : Nat → List AV → Option (Heap → Option (Eff × Acc))) : ZOk ⟨Tryz.tyT, fn, pu, pr⟩ npT F81 (G81 ⟨Tryz.tyT, fn, pu, pr⟩) := ⟨by kernel_rfl, by kernel_rfl, by kernel_rfl, fun cy Y k => by kernel_rfl⟩
noncomputable def F82 : FFn := cF LV 0 [5, 0, 1, 4] Tryz.f82
noncomputable def G82 (E : Env) : ZFn := ⟨25, [5, 0, 1, 4], fun cy Y fuel =>
 (zSeq (zReg fun k => (zV 3 (vMv (.k (.bool false)))) k)
 (zSeq (zSeq (zReg fun k => (zV 0 (vMv (.k (.int .i64 0)))) k)
 (zBlock 0 (zLoop fuel (zSeq (zSeq (zReg fun k => (zP (vLenL (.v 1))) ((zP (vInt E fLss .lss 3 false false (.v 0) (.l 0))) k))
 (zCond (.l 0) zSkip (zExit 0)))
 (zSeq (zBlock 1 (zSeq (zDreg 1 fun n0 k => (zPD (vIndexAddr 2 (.v 1) (.v 0))) ((zPD (vFieldAddr 1 (.l 0))) ((zLD B36 4 1 false (.l 0)) ((zPD (vIndexAddr 2 (.v 1) (.v 0))) ((zPD (vFieldAddr 0 (.l 0))) ((zLD B36 10 1 false (.l 0)) ((zCallD (cy Y) B36 11 110 [(.v 2), (.l 0)] .push) ((zPD (vInt E fGtr .gtr 24 false false (.l 4) (.l 0))) k))))))))
 (zCond (.l 0) (zSeq (zReg fun k => (zV 3 (vMv (.k (.bool false)))) k)
 zRet) zSkip)))
 (zReg fun k => (zP (vMv (.v 0))) ((zP (vInt E fAdd .add 3 false true (.l 0) (.k (.int .i64 1)))) ((zV 0 (vMv (.l 0))) k))))))))
 (zSeq (zReg fun k => (zV 3 (vMv (.k (.bool true)))) k)
 zRet))), [.tmp (.v 3)]⟩
theorem G82_ok (fn : Nat → Option Func) (pu : Nat → Bool) (pr : Nat → List AV → Option (Heap → Option (Eff × Acc))) : ZOk ⟨Tryz.tyT, fn, pu, pr⟩ npT F82 (G82 ⟨Tryz.tyT, fn, pu, pr⟩) := ⟨by kernel_rfl, by kernel_rfl, by kernel_rfl, fun cy Y k => by kernel_rfl⟩
noncomputable def F84 : FFn := cF LV 0 [1, 0, 5, 3, 6, 7, 8, 4] Tryz.f84
noncomputable def G84 (E : Env) : ZFn := ⟨87, [1, 0, 5, 3, 6, 7, 8, 4], fun cy Y fuel =>
 (zSeq (zReg fun k => (zStep E (cy Y) ⟨.box 29 (.v 0), (.var 3), none, false, 0, (some 0)⟩) ((zV 7 (vMv (.k (.bool false)))) k))
 (zSeq (zReg fun k => (zP (vInt E fEql .eql 3 false true (.v 1) (.k (.int .i64 1)))) ((zG (.l 0) false .push (zP (vMv (.v 1)))) ((zG (.l 1) false .push (zP (vInt E fEql .eql 3 false true (.l 0) (.k (.int .i64 2))))) ((zP (vPick (.l 2) (.k (.bool true)) (.l 0))) ((zG (.l 0) false .push (zP (vMv (.v 1)))) ((zG (.l 1) false .push (zP (vInt E fEql .eql 3 false true (.l 0) (.k (.int .i64 6))))) ((zP (vPick (.l 2) (.k (.bool true)) (.l 0))) ((zV 2 (vMv (.l 0))) k))))))))
 (zSeq (zReg fun k => (zP (vInt E fEql .eql 3 false true (.v 1) (.k (.int .i64 3)))) ((zG (.l 0) false .push (zP (vMv (.v 1)))) ((zG (.l 1) false .push (zP (vInt E fEql .eql 3 false true (.l 0) (.k (.int .i64 4))))) ((zP (vPick (.l 2) (.k (.bool true)) (.l 0))) ((zG (.l 0) false .push (zP (vMv (.v 1)))) ((zG (.l 1) false .push (zP (vInt E fEql .eql 3 false true (.l 0) (.k (.int .i64 6))))) ((zP (vPick (.l 2) (.k (.bool true)) (.l 0))) ((zV 4 (vMv (.l 0))) k))))))))
 (zSeq (zReg fun k => (zP (vInt E fEql .eql 3 false true (.v 1) (.k (.int .i64 7)))) ((zG (.l 0) false .push (zP (vMv (.v 1)))) ((zG (.l 1) false .push (zP (vInt E fEql .eql 3 false true (.l 0) (.k (.int .i64 8))))) ((zP (vPick (.l 2) (.k (.bool true)) (.l 0))) ((zV 5 (vMv (.l 0))) k)))))
 (zSeq (zReg fun k => (zP (vInt E fEql .eql 3 false true (.v 1) (.k (.int .i64 4)))) ((zG (.l 0) false .push (zP (vMv (.v 1)))) ((zG (.l 1) false .push (zP (vInt E fEql .eql 3 false true (.l 0) (.k (.int .i64 5))))) ((zP (vPick (.l 2) (.k (.bool true)) (.l 0))) ((zG (.l 0) false .push (zP (vMv (.v 1)))) ((zG (.l 1) false .push (zP (vInt E fEql .eql 3 false true (.l 0) (.k (.int .i64 8))))) ((zP (vPick (.l 2) (.k (.bool true)) (.l 0))) ((zV 6 (vMv (.l 0))) k))))))))
 (zSeq (zReg fun k => (zG (.v 2) false .push (zP (vFieldAddr 0 (.v 3)))) ((zG (.v 2) false .push (zL 1 false (.l 0))) ((zG (.v 2) false .push (zP (vInt E fEql .eql 24 false true (.l 0) (.k (.int .u64 0))))) ((zP (vPick (.v 2) (.k (.bool true)) (.l 0))) ((zG (.l 0) true .push (zP (vMv (.v 1)))) ((zG (.l 1) true .push (zP (vInt E fEql .eql 3 false true (.l 0) (.k (.int .i64 6))))) ((zG (.l 2) true .push (zP (vMv (.l 0)))) ((zG (.l 0) false .push (zP (vFieldAddr 1 (.v 3)))) ((zG (.l 1) false .push (zL 1 false (.l 0))) ((zG (.l 2) false .push (zP (vInt E fEql .eql 24 false true (.l 0) (.k (.int .u64 0))))) ((zG (.l 6) true .push (zP (vPick (.l 3) (.k (.bool true)) (.l 0)))) ((zP (vPick (.l 7) (.l 0) (.k (.bool false)))) ((zG (.l 0) true .push (zP (vMv (.v 4)))) ((zG (.l 1) true .push (zP (vMv (.l 0)))) ((zG (.l 0) false .push (zP (vFieldAddr 2 (.v 3)))) ((zG (.l 1) false .push (zL 1 false (.l 0))) ((zG (.l 2) false .push (zP (vLenL (.l 0)))) ((zG (.l 3) false .push (zP (vInt E fEql .eql 3 false true (.l 0) (.k (.int .i64 0))))) ((zG (.l 6) true .push (zP (vPick (.l 4) (.k (.bool true)) (.l 0)))) ((zP (vPick (.l 7) (.l 0) (.k (.bool false)))) ((zG (.l 0) true .push (zP (vMv (.v 5)))) ((zG (.l 1) true .push (zP (vMv (.l 0)))) ((zG (.l 0) false .push (zP (vFieldAddr 3 (.v 3)))) ((zG (.l 1) false .push (zL 1 false (.l 0))) ((zG (.l 2) false .push (zP (vLenL (.l 0)))) ((zG (.l 3) false .push (zP (vInt E fEql .eql 3 false true (.l 0) (.k (.int .i64 0))))) ((zG (.l 6) true .push (zP (vPick (.l 4) (.k (.bool true)) (.l 0)))) ((zP (vPick (.l 7) (.l 0) (.k (.bool false)))) ((zG (.l 0) true .push (zP (vMv (.v 6)))) ((zG (.l 1) true .push (zP (vMv (.l 0)))) ((zG (.l 0) false .push (zP (vFieldAddr 4 (.v 3)))) ((zG (.l 1) false .push (zL 1 false (.l 0))) ((zG (.l 2) false .push (zP (vLenL (.l 0)))) ((zG (.l 3) false .push (zP (vInt E fEql .eql 3 false true (.l 0) (.k (.int .i64 0))))) ((zG (.l 6) true .push (zP (vPick (.l 4) (.k (.bool true)) (.l 0)))) ((zP (vPick (.l 7) (.l 0) (.k (.bool false)))) ((zV 7 (vMv (.l 0))) k)))))))))))))))))))))))))))))))))))))
 zRet)))))), [.tmp (.v 7)]⟩
theorem G84_ok (fn : Nat → Option Func) (pu : Nat → Bool) (pr : Nat → List AV → Option (Heap → Option (Eff × Acc))) : ZOk ⟨Tryz.tyT, fn, pu, pr⟩ npT F84 (G84 ⟨Tryz.tyT, fn, pu, pr⟩) := ⟨by kernel_rfl, by kernel_rfl, by kernel_rfl, fun cy Y k => by kernel_rfl⟩
noncomputable def F85 : FFn := cF LV 0 [0, 1, 2, 3] Tryz.f85
noncomputable def G85 (E : Env) : ZFn := ⟨10, [0, 1, 2, 3], fun cy Y fuel =>
 (zSeq (zReg fun k => (zStep E (cy Y) ⟨.box 29 (.v 0), (.var 2), none, false, 0, (some 0)⟩) ((zV 3 (vMv (.k (.bool false)))) k))
 (zSeq (zDreg 1 fun n0 k => (zPD (vFieldAddr 1 (.v 1))) ((zLD B37 1 1 false (.l 0)) ((zPD (vIndexAddr 2 (.l 0) (.k (.int .i64 0)))) ((zLD B37 3 2 true (.l 0)) ((zLD B37 4 5 true (.v 2)) ((zCallD (cy Y) B37 5 75 [(.l 1), (.l 0)] .push) ((zVD 3 (vMv (.l 0))) k)))))))
 zRet)), [.tmp (.v 3)]⟩
theorem G85_ok (fn : Nat → Option Func) (pu : Nat → Bool) (pr : Nat → List AV → Option (Heap → Option (Eff × Acc))) : ZOk ⟨Tryz.tyT, fn, pu, pr⟩ npT F85 (G85 ⟨Tryz.tyT, fn, pu, pr⟩) := ⟨by kernel_rfl, by kernel_rfl, by kernel_rfl, fun cy Y k => by kernel_rfl⟩
noncomputable def F86 : FFn := cF LV 0 [0, 2] Tryz.f86
noncomputable def G86 (E : Env) : ZFn := ⟨15, [0, 2], fun cy Y fuel =>
 (zSeq (zReg fun k => (zV 1 (vMv (.k (.bool false)))) k)
 (zSeq (zReg fun k => (zP (vLenL (.v 0))) ((zP (vInt E (fGen .leq) .leq 3 false true (.l 0) (.k (.int .i64 40)))) ((zG (.l 0) true .push (zP (vMv (.v 0)))) ((zG (.l 1) true .push (zCall (cy Y) 112 [(.l 0)] .push)) ((zP (vPick (.l 2) (.l 0) (.k (.bool false)))) ((zG (.l 0) true .push (zP (vMv (.v 0)))) ((zG (.l 1) true .push (zCall (cy Y) 29 [(.l 0), (.k (.clo 113 []))] .push)) ((zG (.l 2) true .push (zP (vNot (.l 0)))) ((zP (vPick (.l 3) (.l 0) (.k (.bool false)))) ((zV 1 (vMv (.l 0))) k))))))))))
 zRet)), [.tmp (.v 1)]⟩
theorem G86_ok (fn : Nat → Option Func) (pu : Nat → Bool) (pr : Nat → List AV → Option (Heap → Option (Eff × Acc))) : ZOk ⟨Tryz.tyT, fn, pu, pr⟩ npT F86 (G86 ⟨Tryz.tyT, fn, pu, pr⟩) := ⟨by kernel_rfl, by kernel_rfl, by kernel_rfl, fun cy Y k => by kernel_rfl⟩
noncomputable def F87 : FFn := cF LV 0 [0, 1, 4] Tryz.f87
noncomputable def G87 (E : Env) : ZFn := ⟨9, [0, 1, 4], fun cy Y fuel =>
 (zSeq (zReg fun k => (zV 2 (vMv (.k (.bool false)))) k)
 (zSeq (zReg fun k => (zCall (cy Y) 114 [(.v 0), (.v 1)] .push) ((zP (vInt E (fGen .geq) .geq 3 false true (.l 0) (.k (.int .i64 0)))) ((zV 2 (vMv (.l 0))) k)))
 zRet)), [.tmp (.v 2)]⟩
theorem G87_ok (fn : Nat → Option Func) (pu : Nat → Bool) (pr : Nat → List AV → Option (Heap → Option (Eff × Acc))) : ZOk ⟨Tryz.tyT, fn, pu, pr⟩ npT F87 (G87 ⟨Tryz.tyT, fn, pu, pr⟩) := ⟨by kernel_rfl, by kernel_rfl, by kernel_rfl, fun cy Y k => by kernel_rfl⟩
noncomputable def F88 : FFn := cF LV 0 [0, 1, 3, 2, 4] Tryz.f88
noncomputable def G88 (E : Env) : ZFn := ⟨17, [0, 1, 3, 2, 4], fun cy Y fuel =>
 (zSeq (zReg fun k => (zStep E (cy Y) ⟨.box 29 (.v 0), (.var 2), none, false, 0, (some 0)⟩) ((zV 4 (vMv (.k (.bool false)))) k))
 (zSeq (zDreg 2 fun n0 k => (zLD B38 0 1 false (.v 1)) ((zLD B38 1 5 true (.v 2)) ((zStepD E (cy Y) B38 n0 ⟨.callv (.l 1) [(.l 0)], .push, none, false, 2, (some 0)⟩) ((zPD (vNot (.l 0))) ((zGD (.l 0) false .push (zPD (vFieldAddr 1 (.v 3)))) ((zGD (.l 1) false .push (zLD B38 6 1 false (.l 0))) ((zGD (.l 2) false .push (zPD (vIndexAddr 2 (.l 0) (.k (.int .i64 0))))) ((zGD (.l 3) false .push (zLD B38 8 2 true (.l 0))) ((zGD (.l 4) false .push (zLD B38 9 5 true (.v 2))) ((zGD (.l 5) false .push (zCallD (cy Y) B38 10 61 [(.l 1), (.l 0)] .push)) ((zPD (vPick (.l 6) (.k (.bool true)) (.l 0))) ((zVD 4 (vMv (.l 0))) k))))))))))))
 zRet)), [.tmp (.v 4)]⟩
theorem G88_ok (fn : Nat → Option Func) (pu : Nat → Bool) (pr : Nat → List AV → Option (Heap → Option (Eff × Acc))) : ZOk ⟨Tryz.tyT, fn, pu, pr⟩ npT F88 (G88 ⟨Tryz.tyT, fn, pu, pr⟩) := ⟨by kernel_rfl, by kernel_rfl, by kernel_rfl, fun cy Y k => by kernel_rfl⟩
noncomputable def F90 : FFn := cF LV 0 [0, 7, 6, 5, 4, 3, 2] Tryz.f90
noncomputable def G90 (E : Env) : ZFn := ⟨44, [0, 7, 6, 5, 4, 3, 2], fun cy Y fuel =>
 (zSeq (zReg fun k => (zV 6 (vMv (.k (.bool false)))) k)
 (zSeq (zSeq (zReg fun k => (zV 3 (vMv (.v 0))) ((zV 2 (vLenL (.v 3))) ((zV 1 (vMv (.k (.int .i64 0)))) k)))
 (zBlock 0 (zLoop fuel (zSeq (zReg fun k => (zP (vInt E fLss .lss 3 false false (.v 1) (.v 2))) k)
 (zSeq (zCond (.l 0) zSkip (zExit 0))
 (zSeq (zBlock 1 (zSeq (zReg fun k => (zP (vIndexAddr 2 (.v 3) (.v 1))) ((zL 2 true (.l 0)) ((zStep E (cy Y) ⟨.alloc 43, (.var 4), none, false, 3, (some 0)⟩) ((zV 5 (vMv (.v 1))) ((zStep E (cy Y) ⟨.store 43 (.v 4) (.l 0), .none, none, false, 5, none⟩) k)))))
 (zSeq (zDreg 0 fun n0 k => (zPD (vFieldAddr 0 (.v 4))) ((zLD B39 1 1 false (.l 0)) ((zPD (vInt E fLss .lss 3 false true (.l 0) (.k (.int .i64 0)))) ((zGD (.l 0) false .push (zPD (vFieldAddr 0 (.v 4)))) ((zGD (.l 1) false .push (zLD B39 5 1 false (.l 0))) ((zGD (.l 2) false .push (zPD (vInt E fGtr .gtr 3 false true (.l 0) (.k (.int .i64 1000000))))) ((zPD (vPick (.l 3) (.k (.bool true)) (.l 0))) ((zGD (.l 0) false .push (zPD (vFieldAddr 1 (.v 4)))) ((zGD (.l 1) false .push (zLD B39 10 1 false (.l 0))) ((zGD (.l 2) false .push (zPD (vInt E fEql .eql 24 false true (.l 0) (.k (.int .u64 0))))) ((zPD (vPick (.l 3) (.k (.bool true)) (.l 0))) ((zGD (.l 0) false .push (zPD (vMv (.v 5)))) ((zGD (.l 1) false .push (zPD (vInt E fGtr .gtr 3 false true (.l 0) (.k (.int .i64 0))))) ((zGD (.l 2) false .push (zPD (vMv (.l 0)))) ((zGD (.l 0) true .push (zPD (vFieldAddr 0 (.v 4)))) ((zGD (.l 1) true .push (zLD B39 18 1 false (.l 0))) ((zGD (.l 2) true .push (zPD (vMv (.v 0)))) ((zGD (.l 3) true .push (zPD (vMv (.v 5)))) ((zGD (.l 4) true .push (zPD (vInt E fSub .sub 3 false true (.l 0) (.k (.int .i64 1))))) ((zGD (.l 5) true .push (zPD (vIndexAddr 2 (.l 2) (.l 0)))) ((zGD (.l 6) true .push (zPD (vFieldAddr 0 (.l 0)))) ((zGD (.l 7) true .push (zLD B39 24 1 false (.l 0))) ((zGD (.l 8) true .push (zPD (vInt E (fGen .leq) .leq 3 false false (.l 6) (.l 0)))) ((zGD (.l 12) false .push (zPD (vPick (.l 9) (.l 0) (.k (.bool false))))) ((zPD (vPick (.l 13) (.k (.bool true)) (.l 0))) k)))))))))))))))))))))))))
 (zCond (.l 0) (zSeq (zReg fun k => (zV 6 (vMv (.k (.bool false)))) k)
 zRet) zSkip))))
 (zReg fun k => (zP (vInt E fAdd .add 3 false true (.v 1) (.k (.int .i64 1)))) ((zV 1 (vMv (.l 0))) k))))))))
 (zSeq (zReg fun k => (zP (vLenL (.v 0))) ((zP (vInt E (fGen .leq) .leq 3 false true (.l 0) (.k (.int .i64 40)))) ((zV 6 (vMv (.l 0))) k)))
 zRet))), [.tmp (.v 6)]⟩
theorem G90_ok (fn : Nat → Option Func) (pu : Nat → Bool) (pr : Nat → List AV → Option (Heap → Option (Eff × Acc))) : ZOk ⟨Tryz.tyT, fn, pu, pr⟩ npT F90 (G90 ⟨Tryz.tyT, fn, pu, pr⟩) := ⟨by kernel_rfl, by kernel_rfl, by kernel_rfl, fun cy Y k => by kernel_rfl⟩
noncomputable def F91 : FFn := cF LV 1 [0, 9, 8, 7, 4, 2] Tryz.f91
noncomputable def G91 (E : Env) : ZFn := ⟨31, [0, 9, 8, 7, 4, 2], fun cy Y fuel =>
 (zSeq (zReg fun k => (zStep E (cy Y) ⟨.alloc 4, (.var 5), none, false, 0, (some 0)⟩) k)
 (zSeq (zSeq (zReg fun k => (zV 3 (vMv (.v 0))) ((zV 2 (vLenL (.v 3))) ((zV 1 (vMv (.k (.int .i64 0)))) k)))
 (zBlock 0 (zLoop fuel (zSeq (zReg fun k => (zP (vInt E fLss .lss 3 false false (.v 1) (.v 2))) k)
 (zSeq (zCond (.l 0) zSkip (zExit 0))
 (zSeq (zBlock 1 (zSeq (zReg fun k => (zP (vIndexAddr 1 (.v 3) (.v 1))) ((zL 1 false (.l 0)) ((zV 4 (vMv (.l 0))) k)))
 (zSeq (zReg fun k => (zCall (cy Y) 90 [(.v 4)] .push) ((zP (vNot (.l 0))) k))
 (zCond (.l 0) (zSeq (zReg fun k => (zStep E (cy Y) ⟨.store 4 (.v 5) (.k (.bool false)), .none, none, false, 0, none⟩) k)
 zRet) zSkip))))
 (zReg fun k => (zP (vInt E fAdd .add 3 false true (.v 1) (.k (.int .i64 1)))) ((zV 1 (vMv (.l 0))) k))))))))
 (zSeq (zSeq (zReg fun k => (zCall (cy Y) 115 [(.v 0)] .push) k)
 (zBlock 2 (zRange cy Y (.l 0) 1 [none, none, none, none, (some (.v 5))] [none, none, (some (.v 5)), none, none, none, none, none, none, none, none, none, none, none, none, none, none, none, none, none, none, none, none, none, none, none, none, none, none, none, none] [19, 20] (codeAt [1, 1, 0, 1, 0, 0] (bodyOf Tryz.f91)) (codeAt [1, 1, 0, 1, 0, 1] (bodyOf Tryz.f91)))))
 (zSeq (zReg fun k => (zStep E (cy Y) ⟨.store 4 (.v 5) (.k (.bool true)), .none, none, false, 0, none⟩) k)
 zRet)))), [.cell (.v 5) 4]⟩
theorem G91_ok (fn : Nat → Option Func) (pu : Nat → Bool) (pr : Nat → List AV → Option (Heap → Option (Eff × Acc))) : ZOk ⟨Tryz.tyT, fn, pu, pr⟩ npT F91 (G91 ⟨Tryz.tyT, fn, pu, pr⟩) := ⟨by kernel_rfl, by kernel_rfl, by kernel_rfl, fun cy Y k => by kernel_rfl⟩
noncomputable def F92 : FFn := cF LV 0 [0, 1, 2, 3] Tryz.f92
noncomputable def G92 (E : Env) : ZFn := ⟨8, [0, 1, 2, 3], fun cy Y fuel =>
 (zSeq (zReg fun k => (zStep E (cy Y) ⟨.box 29 (.v 0), (.var 2), none, false, 0, (some 0)⟩) ((zV 3 (vMv (.k (.bool false)))) k))
 (zSeq (zReg fun k => (zL 1 false (.v 1)) ((zL 5 true (.v 2)) ((zStep E (cy Y) ⟨.callv (.l 1) [(.l 0)], .push, none, false, 2, (some 0)⟩) ((zP (vNot (.l 0))) ((zV 3 (vMv (.l 0))) k)))))
 zRet)), [.tmp (.v 3)]⟩
theorem G92_ok (fn : Nat → Option Func) (pu : Nat → Bool) (pr : Nat → List AV → Option (Heap → Option (Eff × Acc))) : ZOk ⟨Tryz.tyT, fn, pu, pr⟩ npT F92 (G92 ⟨Tryz.tyT, fn, pu, pr⟩) := ⟨by kernel_rfl, by kernel_rfl, by kernel_rfl, fun cy Y k => by kernel_rfl⟩
noncomputable def F93 : FFn := cF LV 0 [1, 6, 2, 7, 0] Tryz.f93
noncomputable def G93 (E : Env) : ZFn := ⟨49, [1, 6, 2, 7, 0], fun cy Y fuel =>
 (zSeq (zReg fun k => (zP (vInt E fAdd .add 3 false true (.v 0) (.k (.int .i64 1)))) ((zV 1 (vMv (.l 0))) k))
 (zBlock 0 (zLoop fuel (zSeq (zSeq (zReg fun k => (zP (vInt E fLss .lss 3 false false (.v 1) (.v 2))) k)
 (zCond (.l 0) zSkip (zExit 0)))
 (zSeq (zBlock 1 (zSeq (zReg fun k => (zV 3 (vMv (.v 1))) k)
 (zBlock 2 (zLoop fuel (zSeq (zSeq (zDreg 1 fun n0 k => (zPD (vInt E fGtr .gtr 3 false false (.v 3) (.v 0))) ((zGD (.l 0) true .push (zPD (vMv (.v 4)))) ((zGD (.l 1) true .push (zPD (vMv (.v 3)))) ((zGD (.l 2) true .push (zPD (vIndexAddr 1 (.l 1) (.l 0)))) ((zGD (.l 3) true .push (zLD B40 7 1 false (.l 0))) ((zGD (.l 4) true .push (zPD (vMv (.v 4)))) ((zGD (.l 5) true .push (zPD (vMv (.v 3)))) ((zGD (.l 6) true .push (zPD (vInt E fSub .sub 3 false true (.l 0) (.k (.int .i64 1))))) ((zGD (.l 7) true .push (zPD (vIndexAddr 1 (.l 2) (.l 0)))) ((zGD (.l 8) true .push (zLD B40 12 1 false (.l 0))) ((zGD (.l 9) true .push (zCallD (cy Y) B40 13 99 [(.l 5), (.l 0)] .push)) ((zPD (vPick (.l 10) (.l 0) (.k (.bool false)))) k))))))))))))
 (zCond (.l 0) zSkip (zExit 2)))
 (zSeq (zBlock 3 (zDreg 0 fun n0 k => (zPD (vInt E fSub .sub 3 false true (.v 3) (.k (.int .i64 1)))) ((zPD (vInt E fSub .sub 3 false true (.v 3) (.k (.int .i64 1)))) ((zPD (vIndexAddr 1 (.v 4) (.l 0))) ((zLD B33 9 1 false (.l 0)) ((zPD (vIndexAddr 1 (.v 4) (.v 3))) ((zLD B33 13 1 false (.l 0)) ((zPD (vIndexAddr 1 (.v 4) (.v 3))) ((zStepD E (cy Y) B33 n0 ⟨.store 9 (.l 0) (.l 3), .none, none, false, 15, none⟩) ((zPD (vIndexAddr 1 (.v 4) (.l 6))) ((zStepD E (cy Y) B33 n0 ⟨.store 9 (.l 0) (.l 2), .none, none, false, 17, none⟩) k)))))))))))
 (zReg fun k => (zP (vMv (.v 3))) ((zP (vInt E fSub .sub 3 false true (.l 0) (.k (.int .i64 1)))) ((zV 3 (vMv (.l 0))) k)))))))))
 (zReg fun k => (zP (vMv (.v 1))) ((zP (vInt E fAdd .add 3 false true (.l 0) (.k (.int .i64 1)))) ((zV 1 (vMv (.l 0))) k)))))))), []⟩
theorem G93_ok (fn : Nat → Option Func) (pu : Nat → Bool) (pr : Nat → List AV → Option (Heap → Option (Eff × Acc))) : ZOk ⟨Tryz.tyT, fn, pu, pr⟩ npT F93 (G93 ⟨Tryz.tyT, fn, pu, pr⟩) := ⟨by kernel_rfl, by kernel_rfl, by kernel_rfl, fun cy Y k => by kernel_rfl⟩
noncomputable def F99 : FFn := cF LV 0 [0, 1, 4] Tryz.f99
noncomputable def G99 (E : Env) : ZFn := ⟨17, [0, 1, 4], fun cy Y fuel =>
 (zSeq (zReg fun k => (zV 2 (vMv (.k (.bool false)))) k)
 (zSeq (zReg fun k => (zCall (cy Y) 123 [(.v 0)] .push) ((zG (.l 0) true .push (zP (vMv (.v 1)))) ((zG (.l 1) true .push (zCall (cy Y) 123 [(.l 0)] .push)) ((zG (.l 2) true .push (zP (vNot (.l 0)))) ((zP (vPick (.l 3) (.l 0) (.k (.bool false)))) ((zG (.l 0) false .push (zP (vMv (.v 0)))) ((zG (.l 1) false .push (zP (vMv (.v 1)))) ((zG (.l 2) false .push (zP (vInt E fLss .lss 9 false false (.l 1) (.l 0)))) ((zP (vPick (.l 3) (.k (.bool true)) (.l 0))) ((zV 2 (vMv (.l 0))) k))))))))))
 zRet)), [.tmp (.v 2)]⟩
theorem G99_ok (fn : Nat → Option Func) (pu : Nat → Bool) (pr : Nat → List AV → Option (Heap → Option (Eff × Acc))) : ZOk ⟨Tryz.tyT, fn, pu, pr⟩ npT F99 (G99 ⟨Tryz.tyT, fn, pu, pr⟩) := ⟨by kernel_rfl, by kernel_rfl, by kernel_rfl, fun cy Y k => by kernel_rfl⟩
noncomputable def F103 : FFn := cF LV 0 [0, 2] Tryz.f103
noncomputable def G103 (E : Env) : ZFn := ⟨25, [0, 2], fun cy Y fuel =>
 (zSeq (zReg fun k => (zV 1 (vMv (.k (.int .i64 0)))) k)
 (zSeq (zSeq (zReg fun k => (zP (vInt E (fGen .geq) .geq 24 false true (.v 0) (.k (.int .u64 4294967296)))) k)
 (zCond (.l 0) (zSeq (zReg fun k => (zP (vMv (.v 0))) ((zP (vBin E .shr 24 false true (.l 0) (.k (.int .u64 32)))) ((zV 0 (vMv (.l 0))) k)))
 (zReg fun k => (zV 1 (vMv (.k (.int .i64 32)))) k)) zSkip))
 (zSeq (zSeq (zReg fun k => (zP (vInt E (fGen .geq) .geq 24 false true (.v 0) (.k (.int .u64 65536)))) k)
 (zCond (.l 0) (zSeq (zReg fun k => (zP (vMv (.v 0))) ((zP (vBin E .shr 24 false true (.l 0) (.k (.int .u64 16)))) ((zV 0 (vMv (.l 0))) k)))
 (zReg fun k => (zP (vMv (.v 1))) ((zP (vInt E fAdd .add 3 false true (.l 0) (.k (.int .i64 16)))) ((zV 1 (vMv (.l 0))) k)))) zSkip))
 (zSeq (zSeq (zReg fun k => (zP (vInt E (fGen .geq) .geq 24 false true (.v 0) (.k (.int .u64 256)))) k)
 (zCond (.l 0) (zSeq (zReg fun k => (zP (vMv (.v 0))) ((zP (vBin E .shr 24 false true (.l 0) (.k (.int .u64 8)))) ((zV 0 (vMv (.l 0))) k)))
 (zReg fun k => (zP (vMv (.v 1))) ((zP (vInt E fAdd .add 3 false true (.l 0) (.k (.int .i64 8)))) ((zV 1 (vMv (.l 0))) k)))) zSkip))
 (zSeq (zReg fun k => (zP (vMv (.v 1))) ((zP (vConv .u8 (.v 0))) ((zStep E (cy Y) ⟨.index 9 (.k (.str [0, 1, 2, 2, 3, 3, 3, 3, 4, 4, 4, 4, 4, 4, 4, 4, 5, 5, 5, 5, 5, 5, 5, 5, 5, 5, 5, 5, 5, 5, 5, 5, 6, 6, 6, 6, 6, 6, 6, 6, 6, 6, 6, 6, 6, 6, 6, 6, 6, 6, 6, 6, 6, 6, 6, 6, 6, 6, 6, 6, 6, 6, 6, 6, 7, 7, 7, 7, 7, 7, 7, 7, 7, 7, 7, 7, 7, 7, 7, 7, 7, 7, 7, 7, 7, 7, 7, 7, 7, 7, 7, 7, 7, 7, 7, 7, 7, 7, 7, 7, 7, 7, 7, 7, 7, 7, 7, 7, 7, 7, 7, 7, 7, 7, 7, 7, 7, 7, 7, 7, 7, 7, 7, 7, 7, 7, 7, 7, 8, 8, 8, 8, 8, 8, 8, 8, 8, 8, 8, 8, 8, 8, 8, 8, 8, 8, 8, 8, 8, 8, 8, 8, 8, 8, 8, 8, 8, 8, 8, 8, 8, 8, 8, 8, 8, 8, 8, 8, 8, 8, 8, 8, 8, 8, 8, 8, 8, 8, 8, 8, 8, 8, 8, 8, 8, 8, 8, 8, 8, 8, 8, 8, 8, 8, 8, 8, 8, 8, 8, 8, 8, 8, 8, 8, 8, 8, 8, 8, 8, 8, 8, 8, 8, 8, 8, 8, 8, 8, 8, 8, 8, 8, 8, 8, 8, 8, 8, 8, 8, 8, 8, 8, 8, 8, 8, 8, 8, 8, 8, 8, 8, 8, 8, 8, 8, 8, 8, 8, 8, 8, 8, 8, 8, 8, 8, 8])) (.l 0), .push, none, false, 3, none⟩) ((zP (vConv .i64 (.l 0))) ((zP (vInt E fAdd .add 3 false false (.l 3) (.l 0))) ((zV 1 (vMv (.l 0))) k))))))
 zRet))))), [.tmp (.v 1)]⟩
theorem G103_ok (fn : Nat → Option Func) (pu : Nat → Bool) (pr : Nat → List AV → Option (Heap → Option (Eff × Acc))) : ZOk ⟨Tryz.tyT, fn, pu, pr⟩ npT F103 (G103 ⟨Tryz.tyT, fn, pu, pr⟩) := ⟨by kernel_rfl, by kernel_rfl, by kernel_rfl, fun cy Y k => by kernel_rfl⟩
noncomputable def F104 : FFn := cF LV 0 [0, 1, 13, 12, 5, 4] Tryz.f104
noncomputable def G104 (E : Env) : ZFn := ⟨26, [0, 1, 13, 12, 5, 4], fun cy Y fuel =>
 (zSeq (zReg fun k => (zV 5 (vMv (.k (.bool false)))) k)
 (zSeq (zSeq (zReg fun k => (zP (vLenL (.v 0))) ((zP (vLenL (.v 1))) ((zP (vInt E fNeq .neq 3 false false (.l 1) (.l 0))) k)))
 (zCond (.l 0) (zSeq (zReg fun k => (zV 5 (vMv (.k (.bool false)))) k)
 zRet) zSkip))
 (zSeq (zSeq (zReg fun k => (zV 3 (vLenL (.v 0))) ((zV 2 (vMv (.k (.int .i64 0)))) k))
 (zBlock 0 (zLoop fuel (zSeq (zReg fun k => (zP (vInt E fLss .lss 3 false false (.v 2) (.v 3))) k)
 (zSeq (zCond (.l 0) zSkip (zExit 0))
 (zSeq (zBlock 1 (zSeq (zReg fun k => (zV 4 (vMv (.v 2))) k)
 (zSeq (zDreg 0 fun n0 k => (zPD (vIndexAddr 1 (.v 0) (.v 4))) ((zLD B9 3 1 false (.l 0)) ((zPD (vIndexAddr 1 (.v 1) (.v 4))) ((zLD B9 7 1 false (.l 0)) ((zPD (vInt E fNeq .neq 9 false false (.l 2) (.l 0))) k)))))
 (zCond (.l 0) (zSeq (zReg fun k => (zV 5 (vMv (.k (.bool false)))) k)
 zRet) zSkip))))
 (zReg fun k => (zP (vInt E fAdd .add 3 false true (.v 2) (.k (.int .i64 1)))) ((zV 2 (vMv (.l 0))) k))))))))
 (zSeq (zReg fun k => (zV 5 (vMv (.k (.bool true)))) k)
 zRet)))), [.tmp (.v 5)]⟩
theorem G104_ok (fn : Nat → Option Func) (pu : Nat → Bool) (pr : Nat → List AV → Option (Heap → Option (Eff × Acc))) : ZOk ⟨Tryz.tyT, fn, pu, pr⟩ npT F104 (G104 ⟨Tryz.tyT, fn, pu, pr⟩) := ⟨by kernel_rfl, by kernel_rfl, by kernel_rfl, fun cy Y k => by kernel_rfl⟩
noncomputable def F105 : FFn := cF LV 0 [0, 1, 2, 6] Tryz.f105
noncomputable def G105 (E : Env) : ZFn := ⟨11, [0, 1, 2, 6], fun cy Y fuel =>
 (zSeq (zReg fun k => (zV 3 (vMv (.k (.bool false)))) k)
 (zSeq (zReg fun k => (zCall (cy Y) 124 [(.v 0), (.v 1), (.v 2)] .push) ((zV 3 (vMv (.l 0))) k))
 zRet)), [.tmp (.v 3)]⟩
theorem G105_ok (fn : Nat → Option Func) (pu : Nat → Bool) (pr : Nat → List AV → Option (Heap → Option (Eff × Acc))) : ZOk ⟨Tryz.tyT, fn, pu, pr⟩ npT F105 (G105 ⟨Tryz.tyT, fn, pu, pr⟩) := ⟨by kernel_rfl, by kernel_rfl, by kernel_rfl, fun cy Y k => by kernel_rfl⟩
noncomputable def F106 : FFn := cF LV 0 [0, 1, 4] Tryz.f106
noncomputable def G106 (E : Env) : ZFn := ⟨8, [0, 1, 4], fun cy Y fuel =>
 (zSeq (zReg fun k => (zV 2 (vMv (.k (.bool false)))) k)
 (zSeq (zReg fun k => (zCall (cy Y) 125 [(.v 0), (.v 1)] .push) ((zV 2 (vMv (.l 0))) k))
 zRet)), [.tmp (.v 2)]⟩
theorem G106_ok (fn : Nat → Option Func) (pu : Nat → Bool) (pr : Nat → List AV → Option (Heap → Option (Eff × Acc))) : ZOk ⟨Tryz.tyT, fn, pu, pr⟩ npT F106 (G106 ⟨Tryz.tyT, fn, pu, pr⟩) := ⟨by kernel_rfl, by kernel_rfl, by kernel_rfl, fun cy Y k => by kernel_rfl⟩
noncomputable def F107 : FFn := cF LV 0 [0, 1, 2, 6] Tryz.f107
noncomputable def G107 (E : Env) : ZFn := ⟨11, [0, 1, 2, 6], fun cy Y fuel =>
 (zSeq (zReg fun k => (zV 3 (vMv (.k (.bool false)))) k)
 (zSeq (zReg fun k => (zCall (cy Y) 126 [(.v 0), (.v 1), (.v 2)] .push) ((zV 3 (vMv (.l 0))) k))
 zRet)), [.tmp (.v 3)]⟩
theorem G107_ok (fn : Nat → Option Func) (pu : Nat → Bool) (pr : Nat → List AV → Option (Heap → Option (Eff × Acc))) : ZOk ⟨Tryz.tyT, fn, pu, pr⟩ npT F107 (G107 ⟨Tryz.tyT, fn, pu, pr⟩) := ⟨by kernel_rfl, by kernel_rfl, by kernel_rfl, fun cy Y k => by kernel_rfl⟩
noncomputable def F108 : FFn := cF LV 0 [0, 1, 3, 2] Tryz.f108
noncomputable def G108 (E : Env) : ZFn := ⟨20, [0, 1, 3, 2], fun cy Y fuel =>
 (zSeq (zReg fun k => (zStep E (cy Y) ⟨.box 37 (.v 0), (.var 1), none, false, 0, (some 0)⟩) ((zStep E (cy Y) ⟨.alloc 29, (.var 3), none, false, 1, (some 1)⟩) k))
 (zSeq (zReg fun k => (zStep E (cy Y) ⟨.alloc 29, (.var 2), none, false, 0, (some 0)⟩) k)
 (zSeq (zSeq (zReg fun k => (zP (vFieldAddr 0 (.v 1))) ((zL 1 false (.l 0)) ((zP (vInt E fEql .eql 3 false true (.l 0) (.k (.int .i64 5)))) k)))
 (zCond (.l 0) (zDreg 3 fun n0 k => (zPD (vFieldAddr 1 (.v 1))) ((zLD B41 1 1 false (.l 0)) ((zPD (vIndexAddr 2 (.l 0) (.k (.int .i64 0)))) ((zLD B41 3 2 true (.l 0)) ((zCallD (cy Y) B41 4 108 [(.l 0)] .push) ((zPD (vFieldAddr 1 (.v 1))) ((zLD B41 6 1 false (.l 0)) ((zPD (vIndexAddr 2 (.l 0) (.k (.int .i64 1)))) ((zLD B41 8 2 true (.l 0)) ((zCallD (cy Y) B41 9 108 [(.l 0)] .push) ((zStepD E (cy Y) B41 n0 ⟨.buildSlice 27 2 [(0, (.l 5)), (1, (.l 0))], .push, none, false, 10, (some 2)⟩) ((zPD (vFieldAddr 4 (.v 2))) ((zStepD E (cy Y) B41 n0 ⟨.store 27 (.l 0) (.l 1), .none, none, false, 12, none⟩) k))))))))))))) zSkip))
 (zSeq (zReg fun k => (zL 5 true (.v 2)) ((zStep E (cy Y) ⟨.store 29 (.v 3) (.l 0), .none, none, false, 1, none⟩) k))
 zRet)))), [.cell (.v 3) 29]⟩
theorem G108_ok (fn : Nat → Option Func) (pu : Nat → Bool) (pr : Nat → List AV → Option (Heap → Option (Eff × Acc))) : ZOk ⟨Tryz.tyT, fn, pu, pr⟩ npT F108 (G108 ⟨Tryz.tyT, fn, pu, pr⟩) := ⟨by kernel_rfl, by kernel_rfl, by kernel_rfl, fun cy Y k => by kernel_rfl⟩
noncomputable def F109 : FFn := cF LV 0 [0, 1, 2, 3, 9, 10, 4, 5, 6, 7] Tryz.f109
noncomputable def G109 (E : Env) : ZFn := ⟨76, [0, 1, 2, 3, 9, 10, 4, 5, 6, 7], fun cy Y fuel =>
 (zSeq (zReg fun k => (zStep E (cy Y) ⟨.box 37 (.v 0), (.var 3), none, false, 0, (some 0)⟩) ((zStep E (cy Y) ⟨.box 29 (.v 1), (.var 6), none, false, 1, (some 1)⟩) ((zStep E (cy Y) ⟨.box 29 (.v 2), (.var 7), none, false, 2, (some 2)⟩) ((zStep E (cy Y) ⟨.alloc 29, (.var 8), none, false, 3, (some 3)⟩) ((zV 9 (vMv (.k .nilIface))) k)))))
 (zSeq (zSeq (zReg fun k => (zP (vFieldAddr 0 (.v 3))) ((zDstW (.var 4) (wLoad 1 false (.l 0))) k))
 (zBlock 0 (zSeq (zSeq (zReg fun k => (zP (vInt E fEql .eql 3 false true (.v 4) (.k (.int .i64 1)))) ((zV 5 (vMv (.l 0))) k))
 (zCond (.v 5) zSkip (zReg fun k => (zP (vInt E fEql .eql 3 false true (.v 4) (.k (.int .i64 2)))) ((zV 5 (vMv (.l 0))) k))))
 (zCond (.v 5) (zReg fun k => (zP (vFieldAddr 0 (.v 6))) ((zL 1 false (.l 0)) ((zP (vFieldAddr 0 (.v 7))) ((zL 1 false (.l 0)) ((zStep E (cy Y) ⟨.most true [(.l 2), (.l 0)], .push, none, false, 4, none⟩) ((zP (vFieldAddr 0 (.v 8))) ((zStep E (cy Y) ⟨.store 24 (.l 0) (.l 1), .none, none, false, 6, none⟩) k))))))) (zSeq (zReg fun k => (zP (vInt E fEql .eql 3 false true (.v 4) (.k (.int .i64 3)))) ((zP (vMv (.l 0))) k))
 (zCond (.l 0) (zReg fun k => (zP (vFieldAddr 2 (.v 6))) ((zL 1 false (.l 0)) ((zP (vFieldAddr 2 (.v 7))) ((zL 1 false (.l 0)) ((zCall (cy Y) 127 [(.l 2), (.l 0)] .push) ((zP (vFieldAddr 2 (.v 8))) ((zStep E (cy Y) ⟨.store 25 (.l 0) (.l 1), .none, none, false, 6, none⟩) k))))))) (zSeq (zReg fun k => (zP (vInt E fEql .eql 3 false true (.v 4) (.k (.int .i64 4)))) ((zP (vMv (.l 0))) k))
 (zCond (.l 0) (zReg fun k => (zL 2 true (.v 3)) ((zL 5 true (.v 6)) ((zL 5 true (.v 7)) ((zCall (cy Y) 128 [(.l 2), (.l 1), (.l 0)] .push) ((zP (vExtract 0 (.l 0))) ((zP (vExtract 1 (.l 1))) ((zStep E (cy Y) ⟨.store 29 (.v 8) (.l 1), .none, none, false, 7, none⟩) ((zV 9 (vMv (.l 0))) k)))))))) (zSeq (zReg fun k => (zP (vInt E fEql .eql 3 false true (.v 4) (.k (.int .i64 5)))) ((zP (vMv (.l 0))) k))
 (zCond (.l 0) (zReg fun k => (zL 2 true (.v 3)) ((zL 5 true (.v 6)) ((zL 5 true (.v 7)) ((zCall (cy Y) 129 [(.l 2), (.l 1), (.l 0)] .push) ((zP (vExtract 0 (.l 0))) ((zP (vExtract 1 (.l 1))) ((zStep E (cy Y) ⟨.store 29 (.v 8) (.l 1), .none, none, false, 7, none⟩) ((zV 9 (vMv (.l 0))) k)))))))) (zSeq (zReg fun k => (zP (vInt E fEql .eql 3 false true (.v 4) (.k (.int .i64 6)))) ((zP (vMv (.l 0))) k))
 (zCond (.l 0) (zReg fun k => (zL 5 true (.v 6)) ((zL 5 true (.v 7)) ((zCall (cy Y) 130 [(.l 1), (.l 0)] .push) ((zStep E (cy Y) ⟨.store 29 (.v 8) (.l 0), .none, none, false, 3, none⟩) k)))) (zSeq (zReg fun k => (zP (vInt E fEql .eql 3 false true (.v 4) (.k (.int .i64 7)))) ((zP (vMv (.l 0))) k))
 (zCond (.l 0) (zReg fun k => (zL 5 true (.v 6)) ((zL 5 true (.v 7)) ((zCall (cy Y) 131 [(.l 1), (.l 0)] .push) ((zStep E (cy Y) ⟨.store 29 (.v 8) (.l 0), .none, none, false, 3, none⟩) k)))) (zSeq (zReg fun k => (zP (vInt E fEql .eql 3 false true (.v 4) (.k (.int .i64 8)))) ((zP (vMv (.l 0))) k))
 (zCond (.l 0) (zReg fun k => (zL 2 true (.v 3)) ((zL 5 true (.v 6)) ((zL 5 true (.v 7)) ((zCall (cy Y) 132 [(.l 2), (.l 1), (.l 0)] .push) ((zP (vExtract 0 (.l 0))) ((zP (vExtract 1 (.l 1))) ((zStep E (cy Y) ⟨.store 29 (.v 8) (.l 1), .none, none, false, 7, none⟩) ((zV 9 (vMv (.l 0))) k)))))))) zSkip))))))))))))))))
 (zSeq (zSeq (zReg fun k => (zP (vInt E fEql .eql 32 false true (.v 9) (.k .nilIface))) ((zG (.l 0) true .push (zL 5 true (.v 8))) ((zG (.l 1) true .push (zCall (cy Y) 133 [(.l 0)] .push)) ((zP (vPick (.l 2) (.l 0) (.k (.bool false)))) k))))
 (zCond (.l 0) (zReg fun k => (zStep E (cy Y) ⟨.mkIface 51 (.k (.int .i64 13)), .push, none, false, 0, none⟩) ((zV 9 (vMv (.l 0))) k)) zSkip))
 (zSeq (zSeq (zReg fun k => (zP (vInt E fNeq .neq 32 false true (.v 9) (.k .nilIface))) k)
 (zCond (.l 0) (zSeq (zReg fun k => (zStep E (cy Y) ⟨.build 29 [], .push, none, false, 0, none⟩) ((zP (vMv (.v 9))) ((zStep E (cy Y) ⟨.store 29 (.v 8) (.l 1), .none, none, false, 2, none⟩) ((zV 9 (vMv (.l 0))) k))))
 zRet) zSkip))
 (zSeq (zReg fun k => (zL 5 true (.v 8)) ((zStep E (cy Y) ⟨.store 29 (.v 8) (.l 0), .none, none, false, 1, none⟩) ((zV 9 (vMv (.k .nilIface))) k)))
 zRet))))), [.cell (.v 8) 29, .tmp (.v 9)]⟩
theorem G109_ok (fn : Nat → Option Func) (pu : Nat → Bool) (pr : Nat → List AV → Option (Heap → Option (Eff × Acc))) : ZOk ⟨Tryz.tyT, fn, pu, pr⟩ npT F109 (G109 ⟨Tryz.tyT, fn, pu, pr⟩) := ⟨by kernel_rfl, by kernel_rfl, by kernel_rfl, fun cy Y k => by kernel_rfl⟩
noncomputable def F110 : FFn := cF LV 0 [5, 0, 1, 4] Tryz.f110
noncomputable def G110 (E : Env) : ZFn := ⟨24, [5, 0, 1, 4], fun cy Y fuel =>
 (zSeq (zReg fun k => (zV 3 (vMv (.k (.int .u64 0)))) k)
 (zSeq (zSeq (zReg fun k => (zV 0 (vMv (.k (.int .i64 0)))) k)
 (zBlock 0 (zLoop fuel (zSeq (zSeq (zReg fun k => (zP (vLenL (.v 1))) ((zP (vInt E fLss .lss 3 false false (.v 0) (.l 0))) k))
 (zCond (.l 0) zSkip (zExit 0)))
 (zSeq (zBlock 1 (zSeq (zReg fun k => (zP (vIndexAddr 2 (.v 1) (.v 0))) ((zP (vFieldAddr 0 (.l 0))) ((zL 1 false (.l 0)) ((zP (vInt E fEql .eql 3 false false (.l 0) (.v 2))) k))))
 (zCond (.l 0) (zSeq (zReg fun k => (zP (vIndexAddr 2 (.v 1) (.v 0))) ((zP (vFieldAddr 1 (.l 0))) ((zL 1 false (.l 0)) ((zV 3 (vMv (.l 0))) k))))
 zRet) zSkip)))
 (zReg fun k => (zP (vMv (.v 0))) ((zP (vInt E fAdd .add 3 false true (.l 0) (.k (.int .i64 1)))) ((zV 0 (vMv (.l 0))) k))))))))
 (zSeq (zReg fun k => (zV 3 (vMv (.k (.int .u64 0)))) k)
 zRet))), [.tmp (.v 3)]⟩
theorem G110_ok (fn : Nat → Option Func) (pu : Nat → Bool) (pr : Nat → List AV → Option (Heap → Option (Eff × Acc))) : ZOk ⟨Tryz.tyT, fn, pu, pr⟩ npT F110 (G110 ⟨Tryz.tyT, fn, pu, pr⟩) := ⟨by kernel_rfl, by kernel_rfl, by kernel_rfl, fun cy Y k => by kernel_rfl⟩
noncomputable def F112 : FFn := cF LV 2 [0, 2] Tryz.f112
noncomputable def G112 (E : Env) : ZFn := ⟨12, [0, 2], fun cy Y fuel =>
 (zSeq (zReg fun k => (zStep E (cy Y) ⟨.alloc 4, (.var 1), none, false, 0, (some 0)⟩) k)
 (zSeq (zSeq (zReg fun k => (zCall (cy Y) 134 [(.v 0)] .push) k)
 (zBlock 0 (zRange cy Y (.l 0) 2 [none, none, none, none, (some (.v 1))] [none, none, (some (.v 1)), none, none, none, none, none, none, none, none, none] [7, 8] (codeAt [1, 0, 1, 0, 0] (bodyOf Tryz.f112)) (codeAt [1, 0, 1, 0, 1] (bodyOf Tryz.f112)))))
 (zSeq (zReg fun k => (zStep E (cy Y) ⟨.store 4 (.v 1) (.k (.bool true)), .none, none, false, 0, none⟩) k)
 zRet))), [.cell (.v 1) 4]⟩
theorem G112_ok (fn : Nat → Option Func) (pu : Nat → Bool) (pr : Nat → List AV → Option (Heap → Option (Eff × Acc))) : ZOk ⟨Tryz.tyT, fn, pu, pr⟩ npT F112 (G112 ⟨Tryz.tyT, fn, pu, pr⟩) := ⟨by kernel_rfl, by kernel_rfl, by kernel_rfl, fun cy Y k => by kernel_rfl⟩
noncomputable def F113 : FFn := cF LV 0 [0, 2] Tryz.f113
noncomputable def G113 (E : Env) : ZFn := ⟨6, [0, 2], fun cy Y fuel =>
 (zSeq (zReg fun k => (zV 1 (vMv (.k (.bool false)))) k)
 (zSeq (zReg fun k => (zP (vLenS (.v 0))) ((zP (vInt E fGtr .gtr 3 false true (.l 0) (.k (.int .i64 16)))) ((zV 1 (vMv (.l 0))) k)))
 zRet)), [.tmp (.v 1)]⟩
theorem G113_ok (fn : Nat → Option Func) (pu : Nat → Bool) (pr : Nat → List AV → Option (Heap → Option (Eff × Acc))) : ZOk ⟨Tryz.tyT, fn, pu, pr⟩ npT F113 (G113 ⟨Tryz.tyT, fn, pu, pr⟩) := ⟨by kernel_rfl, by kernel_rfl, by kernel_rfl, fun cy Y k => by kernel_rfl⟩
noncomputable def F114 : FFn := cF LV 0 [0, 8, 7, 1, 5, 4] Tryz.f114
noncomputable def xbody114 (E : Env) (call : CallTT) : CZ := (zSeq (zReg fun k => (zP (vInt E fLss .lss 3 false false (.v 1) (.v 2))) k)
 (zSeq (zCond (.l 0) zSkip (zExit 0))
 (zSeq (zBlock 1 (zSeq (zReg fun k => (zV 4 (vMv (.v 1))) k)
 (zSeq (zReg fun k => (zP (vIndexAddr 5 (.v 0) (.v 4))) ((zL 5 true (.l 0)) ((zStep E call ⟨.callv (.v 3) [(.l 0)], .push, none, false, 5, (some 0)⟩) k)))
 (zCond (.l 0) (zSeq (zReg fun k => (zV 5 (vMv (.v 4))) k)
 zRet) zSkip))))
 (zReg fun k => (zP (vInt E fAdd .add 3 false true (.v 1) (.k (.int .i64 1)))) ((zV 1 (vMv (.l 0))) k)))))
noncomputable def G114 (E : Env) : ZFn := ⟨19, [0, 8, 7, 1, 5, 4], fun cy Y fuel =>
 (zSeq (zReg fun k => (zV 5 (vMv (.k (.int .i64 0)))) k)
 (zSeq (zSeq (zReg fun k => (zV 2 (vLenL (.v 0))) ((zV 1 (vMv (.k (.int .i64 0)))) k))
 (zBlock 0 (zLoop fuel (xbody114 E (cy Y)))))
 (zSeq (zReg fun k => (zV 5 (vMv (.k (.int .i64 (-1))))) k)
 zRet))), [.tmp (.v 5)]⟩
theorem G114_ok (fn : Nat → Option Func) (pu : Nat → Bool) (pr : Nat → List AV → Option (Heap → Option (Eff × Acc))) : ZOk ⟨Tryz.tyT, fn, pu, pr⟩ npT F114 (G114 ⟨Tryz.tyT, fn, pu, pr⟩) := ⟨by kernel_rfl, by kernel_rfl, by kernel_rfl, fun cy Y k => by kernel_rfl⟩
noncomputable def F115 : FFn := cF LV 0 [0, 1, 2] Tryz.f115
noncomputable def G115 (E : Env) : ZFn := ⟨4, [0, 1, 2], fun cy Y fuel =>
 (zSeq (zReg fun k => (zStep E (cy Y) ⟨.box 26 (.v 0), (.var 1), none, false, 0, (some 0)⟩) ((zV 2 (vMv (.k .nilFunc))) k))
 (zSeq (zReg fun k => (zStep E (cy Y) ⟨.mkFunc 135 [(.v 1)], .push, none, false, 0, none⟩) ((zV 2 (vMv (.l 0))) k))
 zRet)), [.tmp (.v 2)]⟩
theorem G115_ok (fn : Nat → Option Func) (pu : Nat → Bool) (pr : Nat → List AV → Option (Heap → Option (Eff × Acc))) : ZOk ⟨Tryz.tyT, fn, pu, pr⟩ npT F115 (G115 ⟨Tryz.tyT, fn, pu, pr⟩) := ⟨by kernel_rfl, by kernel_rfl, by kernel_rfl, fun cy Y k => by kernel_rfl⟩
noncomputable def F116 : FFn := cF LV 0 [0, 1, 4] Tryz.f116
noncomputable def G116 (E : Env) : ZFn := ⟨8, [0, 1, 4], fun cy Y fuel =>
 (zSeq (zReg fun k => (zV 2 (vMv (.k (.int .i64 0)))) k)
 (zSeq (zReg fun k => (zCall (cy Y) 136 [(.v 0), (.v 1), (.k (.clo 137 []))] .push) ((zV 2 (vMv (.l 0))) k))
 zRet)), [.tmp (.v 2)]⟩
theorem G116_ok (fn : Nat → Option Func) (pu : Nat → Bool) (pr : Nat → List AV → Option (Heap → Option (Eff × Acc))) : ZOk ⟨Tryz.tyT, fn, pu, pr⟩ npT F116 (G116 ⟨Tryz.tyT, fn, pu, pr⟩) := ⟨by kernel_rfl, by kernel_rfl, by kernel_rfl, fun cy Y k => by kernel_rfl⟩
noncomputable def F117 : FFn := cF LV 0 [0, 1, 5, 4] Tryz.f117
noncomputable def G117 (E : Env) : ZFn := ⟨21, [0, 1, 5, 4], fun cy Y fuel =>
 (zSeq (zReg fun k => (zV 3 (vMv (.k (.int .i64 0)))) k)
 (zSeq (zReg fun k => (zCall (cy Y) 138 [(.v 0), (.v 1)] .push) ((zV 2 (vMv (.l 0))) k))
 (zSeq (zBlock 0 (zSeq (zReg fun k => (zCall (cy Y) 106 [(.v 0), (.v 1)] .push) ((zP (vMv (.l 0))) k))
 (zCond (.l 0) (zSeq (zReg fun k => (zV 3 (vMv (.k (.int .i64 0)))) k)
 zRet) (zSeq (zReg fun k => (zCall (cy Y) 106 [(.v 2), (.v 1)] .push) ((zP (vMv (.l 0))) k))
 (zCond (.l 0) (zSeq (zReg fun k => (zV 3 (vMv (.k (.int .i64 (-1))))) k)
 zRet) (zSeq (zReg fun k => (zCall (cy Y) 106 [(.v 2), (.v 0)] .push) ((zP (vMv (.l 0))) k))
 (zCond (.l 0) (zSeq (zReg fun k => (zV 3 (vMv (.k (.int .i64 1)))) k)
 zRet) zSkip)))))))
 (zSeq (zReg fun k => (zV 3 (vMv (.k (.int .i64 2)))) k)
 zRet)))), [.tmp (.v 3)]⟩
theorem G117_ok (fn : Nat → Option Func) (pu : Nat → Bool) (pr : Nat → List AV → Option (Heap → Option (Eff × Acc))) : ZOk ⟨Tryz.tyT, fn, pu, pr⟩ npT F117 (G117 ⟨Tryz.tyT, fn, pu, pr⟩) := ⟨by kernel_rfl, by kernel_rfl, by kernel_rfl, fun cy Y k => by kernel_rfl⟩
noncomputable def F123 : FFn := cF LV 0 [0, 2] Tryz.f123
noncomputable def G123 (E : Env) : ZFn := ⟨6, [0, 2], fun cy Y fuel =>
 (zSeq (zReg fun k => (zV 1 (vMv (.k (.bool false)))) k)
 (zSeq (zReg fun k => (zP (vInt E fNeq .neq 9 false false (.v 0) (.v 0))) ((zV 1 (vMv (.l 0))) k))
 zRet)), [.tmp (.v 1)]⟩
theorem G123_ok (fn : Nat → Option Func) (pu : Nat → Bool) (pr : Nat → List AV → Option (Heap → Option (Eff × Acc))) : ZOk ⟨Tryz.tyT, fn, pu, pr⟩ npT F123 (G123 ⟨Tryz.tyT, fn, pu, pr⟩) := ⟨by kernel_rfl, by kernel_rfl, by kernel_rfl, fun cy Y k => by kernel_rfl⟩
noncomputable def F124 : FFn := cF LV 0 [0, 1, 17, 16, 15, 7, 2, 8, 9, 6] Tryz.f124
noncomputable def G124 (E : Env) : ZFn := ⟨32, [0, 1, 17, 16, 15, 7, 2, 8, 9, 6], fun cy Y fuel =>
 (zSeq (zReg fun k => (zV 9 (vMv (.k (.bool false)))) k)
 (zSeq (zSeq (zReg fun k => (zP (vLenL (.v 0))) ((zP (vLenL (.v 1))) ((zP (vInt E fNeq .neq 3 false false (.l 1) (.l 0))) k)))
 (zCond (.l 0) (zSeq (zReg fun k => (zV 9 (vMv (.k (.bool false)))) k)
 zRet) zSkip))
 (zSeq (zSeq (zReg fun k => (zV 4 (vMv (.v 0))) ((zV 3 (vLenL (.v 4))) ((zV 2 (vMv (.k (.int .i64 0)))) k)))
 (zBlock 0 (zLoop fuel (zSeq (zReg fun k => (zP (vInt E fLss .lss 3 false false (.v 2) (.v 3))) k)
 (zSeq (zCond (.l 0) zSkip (zExit 0))
 (zSeq (zBlock 1 (zSeq (zReg fun k => (zP (vIndexAddr 1 (.v 4) (.v 2))) ((zL 1 false (.l 0)) ((zV 5 (vMv (.v 2))) ((zV 7 (vMv (.l 0))) k))))
 (zSeq (zReg fun k => (zP (vIndexAddr 1 (.v 1) (.v 5))) ((zL 1 false (.l 0)) ((zV 8 (vMv (.l 0))) k)))
 (zSeq (zReg fun k => (zStep E (cy Y) ⟨.callv (.v 6) [(.v 7), (.v 8)], .push, none, false, 3, (some 0)⟩) ((zP (vNot (.l 0))) k))
 (zCond (.l 0) (zSeq (zReg fun k => (zV 9 (vMv (.k (.bool false)))) k)
 zRet) zSkip)))))
 (zReg fun k => (zP (vInt E fAdd .add 3 false true (.v 2) (.k (.int .i64 1)))) ((zV 2 (vMv (.l 0))) k))))))))
 (zSeq (zReg fun k => (zV 9 (vMv (.k (.bool true)))) k)
 zRet)))), [.tmp (.v 9)]⟩
theorem G124_ok (fn : Nat → Option Func) (pu : Nat → Bool) (pr : Nat → List AV → Option (Heap → Option (Eff × Acc))) : ZOk ⟨Tryz.tyT, fn, pu, pr⟩ npT F124 (G124 ⟨Tryz.tyT, fn, pu, pr⟩) := ⟨by kernel_rfl, by kernel_rfl, by kernel_rfl, fun cy Y k => by kernel_rfl⟩
noncomputable def F125 : FFn := cF LV 0 [0, 1, 13, 12, 5, 4] Tryz.f125
noncomputable def G125 (E : Env) : ZFn := ⟨26, [0, 1, 13, 12, 5, 4], fun cy Y fuel =>
 (zSeq (zReg fun k => (zV 5 (vMv (.k (.bool false)))) k)
 (zSeq (zSeq (zReg fun k => (zP (vLenL (.v 0))) ((zP (vLenL (.v 1))) ((zP (vInt E fNeq .neq 3 false false (.l 1) (.l 0))) k)))
 (zCond (.l 0) (zSeq (zReg fun k => (zV 5 (vMv (.k (.bool false)))) k)
 zRet) zSkip))
 (zSeq (zSeq (zReg fun k => (zV 3 (vLenL (.v 0))) ((zV 2 (vMv (.k (.int .i64 0)))) k))
 (zBlock 0 (zLoop fuel (zSeq (zReg fun k => (zP (vInt E fLss .lss 3 false false (.v 2) (.v 3))) k)
 (zSeq (zCond (.l 0) zSkip (zExit 0))
 (zSeq (zBlock 1 (zSeq (zReg fun k => (zV 4 (vMv (.v 2))) k)
 (zSeq (zDreg 0 fun n0 k => (zPD (vIndexAddr 2 (.v 0) (.v 4))) ((zLD B9 3 2 true (.l 0)) ((zPD (vIndexAddr 2 (.v 1) (.v 4))) ((zLD B9 7 2 true (.l 0)) ((zPD (vInt E fNeq .neq 43 false false (.l 2) (.l 0))) k)))))
 (zCond (.l 0) (zSeq (zReg fun k => (zV 5 (vMv (.k (.bool false)))) k)
 zRet) zSkip))))
 (zReg fun k => (zP (vInt E fAdd .add 3 false true (.v 2) (.k (.int .i64 1)))) ((zV 2 (vMv (.l 0))) k))))))))
 (zSeq (zReg fun k => (zV 5 (vMv (.k (.bool true)))) k)
 zRet)))), [.tmp (.v 5)]⟩
theorem G125_ok (fn : Nat → Option Func) (pu : Nat → Bool) (pr : Nat → List AV → Option (Heap → Option (Eff × Acc))) : ZOk ⟨Tryz.tyT, fn, pu, pr⟩ npT F125 (G125 ⟨Tryz.tyT, fn, pu, pr⟩) := ⟨by kernel_rfl, by kernel_rfl, by kernel_rfl, fun cy Y k => by kernel_rfl⟩
noncomputable def F126 : FFn := cF LV 0 [0, 1, 17, 16, 15, 7, 2, 8, 9, 6] Tryz.f126
noncomputable def G126 (E : Env) : ZFn := ⟨32, [0, 1, 17, 16, 15, 7, 2, 8, 9, 6], fun cy Y fuel =>
 (zSeq (zReg fun k => (zV 9 (vMv (.k (.bool false)))) k)
 (zSeq (zSeq (zReg fun k => (zP (vLenL (.v 0))) ((zP (vLenL (.v 1))) ((zP (vInt E fNeq .neq 3 false false (.l 1) (.l 0))) k)))
 (zCond (.l 0) (zSeq (zReg fun k => (zV 9 (vMv (.k (.bool false)))) k)
 zRet) zSkip))
 (zSeq (zSeq (zReg fun k => (zV 4 (vMv (.v 0))) ((zV 3 (vLenL (.v 4))) ((zV 2 (vMv (.k (.int .i64 0)))) k)))
 (zBlock 0 (zLoop fuel (zSeq (zReg fun k => (zP (vInt E fLss .lss 3 false false (.v 2) (.v 3))) k)
 (zSeq (zCond (.l 0) zSkip (zExit 0))
 (zSeq (zBlock 1 (zSeq (zReg fun k => (zP (vIndexAddr 5 (.v 4) (.v 2))) ((zL 5 true (.l 0)) ((zStep E (cy Y) ⟨.alloc 29, (.var 7), none, false, 3, (some 0)⟩) ((zV 5 (vMv (.v 2))) ((zStep E (cy Y) ⟨.store 29 (.v 7) (.l 0), .none, none, false, 5, none⟩) k)))))
 (zSeq (zReg fun k => (zP (vIndexAddr 5 (.v 1) (.v 5))) ((zL 5 true (.l 0)) ((zStep E (cy Y) ⟨.alloc 29, (.var 8), none, false, 4, (some 0)⟩) ((zStep E (cy Y) ⟨.store 29 (.v 8) (.l 0), .none, none, false, 5, none⟩) k))))
 (zSeq (zReg fun k => (zL 5 true (.v 7)) ((zL 5 true (.v 8)) ((zStep E (cy Y) ⟨.callv (.v 6) [(.l 1), (.l 0)], .push, none, false, 3, (some 0)⟩) ((zP (vNot (.l 0))) k))))
 (zCond (.l 0) (zSeq (zReg fun k => (zV 9 (vMv (.k (.bool false)))) k)
 zRet) zSkip)))))
 (zReg fun k => (zP (vInt E fAdd .add 3 false true (.v 2) (.k (.int .i64 1)))) ((zV 2 (vMv (.l 0))) k))))))))
 (zSeq (zReg fun k => (zV 9 (vMv (.k (.bool true)))) k)
 zRet)))), [.tmp (.v 9)]⟩
theorem G126_ok (fn : Nat → Option Func) (pu : Nat → Bool) (pr : Nat → List AV → Option (Heap → Option (Eff × Acc))) : ZOk ⟨Tryz.tyT, fn, pu, pr⟩ npT F126 (G126 ⟨Tryz.tyT, fn, pu, pr⟩) := ⟨by kernel_rfl, by kernel_rfl, by kernel_rfl, fun cy Y k => by kernel_rfl⟩
noncomputable def F128 : FFn := cF LV 3 [0, 1, 2, 4, 5, 3, 6, 7, 8] Tryz.f128
noncomputable def G128 (E : Env) : ZFn := ⟨51, [0, 1, 2, 4, 5, 3, 6, 7, 8], fun cy Y fuel =>
 (zSeq (zReg fun k => (zStep E (cy Y) ⟨.box 37 (.v 0), (.var 5), none, false, 0, (some 0)⟩) ((zStep E (cy Y) ⟨.box 29 (.v 1), (.var 3), none, false, 1, (some 1)⟩) ((zStep E (cy Y) ⟨.box 29 (.v 2), (.var 4), none, false, 2, (some 2)⟩) ((zStep E (cy Y) ⟨.alloc 29, (.var 6), none, false, 3, (some 3)⟩) ((zStep E (cy Y) ⟨.alloc 32, (.var 7), none, false, 4, (some 4)⟩) k)))))
 (zSeq (zReg fun k => (zStep E (cy Y) ⟨.alloc 29, (.var 8), none, false, 0, (some 0)⟩) k)
 (zSeq (zSeq (zDreg 3 fun n0 k => (zPD (vFieldAddr 2 (.v 3))) ((zLD B42 1 1 false (.l 0)) ((zPD (vFieldAddr 4 (.v 3))) ((zLD B42 3 1 false (.l 0)) ((zCallD (cy Y) B42 4 142 [(.l 2), (.l 0)] .push) ((zPD (vFieldAddr 2 (.v 4))) ((zLD B42 6 1 false (.l 0)) ((zPD (vFieldAddr 4 (.v 4))) ((zLD B42 8 1 false (.l 0)) ((zCallD (cy Y) B42 9 142 [(.l 2), (.l 0)] .push) ((zCallD (cy Y) B42 10 141 [(.l 5), (.l 0), (.k (.clo 143 []))] .push) k)))))))))))
 (zBlock 0 (zRange cy Y (.l 0) 3 [none, (some (.v 5)), none, none, (some (.v 6)), (some (.v 7)), (some (.v 8)), none] [none, none, none, (some (.v 5)), none, none, (some (.v 6)), (some (.v 7)), (some (.v 8)), none, none, none, none, none, none, none, none, none, none, none, none, none, none, none, none, none, none, none, none, none, none, none, none, none, none, none, none, none, none, none, none, none, none, none, none, none, none, none, none, none, none] [23] (codeAt [1, 1, 0, 1, 0, 0] (bodyOf Tryz.f128)) (codeAt [1, 1, 0, 1, 0, 1] (bodyOf Tryz.f128)))))
 (zSeq (zReg fun k => (zL 5 true (.v 8)) ((zStep E (cy Y) ⟨.store 29 (.v 6) (.l 0), .none, none, false, 1, none⟩) ((zStep E (cy Y) ⟨.store 32 (.v 7) (.k .nilIface), .none, none, false, 2, none⟩) k)))
 zRet)))), [.cell (.v 6) 29, .cell (.v 7) 32]⟩
theorem G128_ok (fn : Nat → Option Func) (pu : Nat → Bool) (pr : Nat → List AV → Option (Heap → Option (Eff × Acc))) : ZOk ⟨Tryz.tyT, fn, pu, pr⟩ npT F128 (G128 ⟨Tryz.tyT, fn, pu, pr⟩) := ⟨by kernel_rfl, by kernel_rfl, by kernel_rfl, fun cy Y k => by kernel_rfl⟩
noncomputable def F132 : FFn := cF LV 0 [0, 1, 2, 4, 5, 8, 28, 27, 26, 11, 3, 13, 6, 9, 12, 7] Tryz.f132
noncomputable def G132 (E : Env) : ZFn := ⟨63, [0, 1, 2, 4, 5, 8, 28, 27, 26, 11, 3, 13, 6, 9, 12, 7], fun cy Y fuel =>
 (zSeq (zReg fun k => (zStep E (cy Y) ⟨.box 37 (.v 0), (.var 10), none, false, 0, (some 0)⟩) ((zStep E (cy Y) ⟨.box 29 (.v 1), (.var 3), none, false, 1, (some 1)⟩) ((zStep E (cy Y) ⟨.box 29 (.v 2), (.var 4), none, false, 2, (some 2)⟩) ((zStep E (cy Y) ⟨.alloc 29, (.var 12), none, false, 3, (some 3)⟩) ((zV 15 (vMv (.k .nilIface))) k)))))
 (zSeq (zDreg 4 fun n0 k => (zPD (vFieldAddr 3 (.v 3))) ((zLD B13 1 1 false (.l 0)) ((zPD (vFieldAddr 4 (.v 3))) ((zLD B13 3 1 false (.l 0)) ((zCallD (cy Y) B13 4 147 [(.l 2), (.l 0)] .push) ((zPD (vFieldAddr 3 (.v 4))) ((zLD B13 6 1 false (.l 0)) ((zPD (vFieldAddr 4 (.v 4))) ((zLD B13 8 1 false (.l 0)) ((zCallD (cy Y) B13 9 147 [(.l 2), (.l 0)] .push) ((zCallD (cy Y) B13 10 146 [(.l 5), (.l 0), (.k (.clo 148 []))] .push) ((zCallD (cy Y) B13 11 145 [(.l 0)] .push) ((zVD 5 (vMv (.l 0))) k)))))))))))))
 (zSeq (zReg fun k => (zStep E (cy Y) ⟨.alloc 29, (.var 13), none, false, 0, (some 0)⟩) k)
 (zSeq (zSeq (zReg fun k => (zV 8 (vMv (.v 5))) ((zV 7 (vLenL (.v 8))) ((zV 6 (vMv (.k (.int .i64 0)))) k)))
 (zBlock 0 (zLoop fuel (zSeq (zReg fun k => (zP (vInt E fLss .lss 3 false false (.v 6) (.v 7))) k)
 (zSeq (zCond (.l 0) zSkip (zExit 0))
 (zSeq (zBlock 1 (zSeq (zReg fun k => (zP (vIndexAddr 3 (.v 8) (.v 6))) ((zL 3 true (.l 0)) ((zStep E (cy Y) ⟨.alloc 168, (.var 9), none, false, 2, (some 0)⟩) ((zStep E (cy Y) ⟨.store 168 (.v 9) (.l 0), .none, none, false, 3, none⟩) k))))
 (zSeq (zSeq (zReg fun k => (zStep E (cy Y) ⟨.mkFunc 150 [(.v 9)], .push, none, false, 1, none⟩) ((zCall (cy Y) 149 [(.v 5), (.l 0)] .push) k))
 (zCond (.l 0) (zExit 1) zSkip))
 (zSeq (zDreg 2 fun n0 k => (zPD (vFieldAddr 1 (.v 10))) ((zLD B43 1 1 false (.l 0)) ((zPD (vIndexAddr 2 (.l 0) (.k (.int .i64 0)))) ((zLD B43 3 2 true (.l 0)) ((zLD B43 4 3 true (.v 9)) ((zCallD (cy Y) B43 5 151 [(.l 1), (.l 0)] .push) ((zPD (vExtract 0 (.l 0))) ((zPD (vExtract 1 (.l 1))) ((zStepD E (cy Y) B43 n0 ⟨.alloc 29, (.var 14), none, false, 9, (some 1)⟩) ((zStepD E (cy Y) B43 n0 ⟨.store 29 (.v 14) (.l 1), .none, none, false, 10, none⟩) ((zVD 11 (vMv (.l 0))) k)))))))))))
 (zSeq (zSeq (zReg fun k => (zP (vInt E fNeq .neq 32 false true (.v 11) (.k .nilIface))) k)
 (zCond (.l 0) (zSeq (zReg fun k => (zStep E (cy Y) ⟨.build 29 [], .push, none, false, 0, none⟩) ((zStep E (cy Y) ⟨.store 29 (.v 12) (.l 0), .none, none, false, 2, none⟩) ((zV 15 (vMv (.v 11))) k)))
 zRet) zSkip))
 (zDreg 4 fun n0 k => (zPD (vFieldAddr 3 (.v 13))) ((zLD B44 1 1 false (.l 0)) ((zPD (vFieldAddr 0 (.v 9))) ((zLD B44 3 1 false (.l 0)) ((zStepD E (cy Y) B44 n0 ⟨.buildSlice 26 1 [(0, (.l 0))], .push, none, false, 4, (some 0)⟩) ((zStepD E (cy Y) B44 n0 ⟨.append 26 26 (.l 3) (.l 0), .push, none, false, 5, (some 1)⟩) ((zPD (vFieldAddr 4 (.v 13))) ((zLD B44 7 1 false (.l 0)) ((zLD B44 8 5 true (.v 14)) ((zStepD E (cy Y) B44 n0 ⟨.buildSlice 27 1 [(0, (.l 0))], .push, none, false, 9, (some 2)⟩) ((zStepD E (cy Y) B44 n0 ⟨.append 27 27 (.l 2) (.l 0), .push, none, false, 10, (some 3)⟩) ((zPD (vFieldAddr 3 (.v 13))) ((zStepD E (cy Y) B44 n0 ⟨.store 26 (.l 0) (.l 6), .none, none, false, 12, none⟩) ((zPD (vFieldAddr 4 (.v 13))) ((zStepD E (cy Y) B44 n0 ⟨.store 27 (.l 0) (.l 2), .none, none, false, 14, none⟩) k))))))))))))))))))))
 (zReg fun k => (zP (vInt E fAdd .add 3 false true (.v 6) (.k (.int .i64 1)))) ((zV 6 (vMv (.l 0))) k))))))))
 (zSeq (zReg fun k => (zL 5 true (.v 13)) ((zStep E (cy Y) ⟨.store 29 (.v 12) (.l 0), .none, none, false, 1, none⟩) ((zV 15 (vMv (.k .nilIface))) k)))
 zRet))))), [.cell (.v 12) 29, .tmp (.v 15)]⟩
theorem G132_ok (fn : Nat → Option Func) (pu : Nat → Bool) (pr : Nat → List AV → Option (Heap → Option (Eff × Acc))) : ZOk ⟨Tryz.tyT, fn, pu, pr⟩ npT F132 (G132 ⟨Tryz.tyT, fn, pu, pr⟩) := ⟨by kernel_rfl, by kernel_rfl, by kernel_rfl, fun cy Y k => by kernel_rfl⟩
noncomputable def F133 : FFn := cF LV 0 [0, 1, 2] Tryz.f133
noncomputable def G133 (E : Env) : ZFn := ⟨28, [0, 1, 2], fun cy Y fuel =>
 (zSeq (zReg fun k => (zStep E (cy Y) ⟨.box 29 (.v 0), (.var 1), none, false, 0, (some 0)⟩) ((zV 2 (vMv (.k (.bool false)))) k))
 (zSeq (zReg fun k => (zP (vFieldAddr 2 (.v 1))) ((zL 1 false (.l 0)) ((zP (vLenL (.l 0))) ((zP (vFieldAddr 3 (.v 1))) ((zL 1 false (.l 0)) ((zP (vLenL (.l 0))) ((zP (vFieldAddr 4 (.v 1))) ((zL 1 false (.l 0)) ((zP (vLenL (.l 0))) ((zStep E (cy Y) ⟨.most true [(.l 6), (.l 3), (.l 0)], .push, none, false, 9, none⟩) ((zP (vInt E fGtr .gtr 3 false true (.l 0) (.k (.int .i64 40)))) ((zG (.l 0) false .push (zP (vFieldAddr 3 (.v 1)))) ((zG (.l 1) false .push (zL 1 false (.l 0))) ((zG (.l 2) false .push (zP (vLenL (.l 0)))) ((zG (.l 3) false .push (zP (vInt E fEql .eql 3 false true (.l 0) (.k (.int .i64 1))))) ((zG (.l 4) false .push (zP (vMv (.l 0)))) ((zG (.l 0) true .push (zP (vFieldAddr 3 (.v 1)))) ((zG (.l 1) true .push (zL 1 false (.l 0))) ((zG (.l 2) true .push (zP (vIndexAddr 1 (.l 0) (.k (.int .i64 0))))) ((zG (.l 3) true .push (zL 1 false (.l 0))) ((zG (.l 4) true .push (zP (vLenL (.l 0)))) ((zG (.l 5) true .push (zP (vInt E fGtr .gtr 3 false true (.l 0) (.k (.int .i64 40))))) ((zG (.l 11) false .push (zP (vPick (.l 6) (.l 0) (.k (.bool false))))) ((zP (vPick (.l 12) (.k (.bool true)) (.l 0))) ((zV 2 (vMv (.l 0))) k)))))))))))))))))))))))))
 zRet)), [.tmp (.v 2)]⟩
theorem G133_ok (fn : Nat → Option Func) (pu : Nat → Bool) (pr : Nat → List AV → Option (Heap → Option (Eff × Acc))) : ZOk ⟨Tryz.tyT, fn, pu, pr⟩ npT F133 (G133 ⟨Tryz.tyT, fn, pu, pr⟩) := ⟨by kernel_rfl, by kernel_rfl, by kernel_rfl, fun cy Y k => by kernel_rfl⟩
noncomputable def F134 : FFn := cF LV 0 [0, 1, 2] Tryz.f134
noncomputable def G134 (E : Env) : ZFn := ⟨4, [0, 1, 2], fun cy Y fuel =>
 (zSeq (zReg fun k => (zStep E (cy Y) ⟨.box 145 (.v 0), (.var 1), none, false, 0, (some 0)⟩) ((zV 2 (vMv (.k .nilFunc))) k))
 (zSeq (zReg fun k => (zStep E (cy Y) ⟨.mkFunc 152 [(.v 1)], .push, none, false, 0, none⟩) ((zV 2 (vMv (.l 0))) k))
 zRet)), [.tmp (.v 2)]⟩
theorem G134_ok (fn : Nat → Option Func) (pu : Nat → Bool) (pr : Nat → List AV → Option (Heap → Option (Eff × Acc))) : ZOk ⟨Tryz.tyT, fn, pu, pr⟩ npT F134 (G134 ⟨Tryz.tyT, fn, pu, pr⟩) := ⟨by kernel_rfl, by kernel_rfl, by kernel_rfl, fun cy Y k => by kernel_rfl⟩
noncomputable def F135 : FFn := cF LV 0 [1, 7, 6, 3, 4, 0] Tryz.f135
noncomputable def G135 (E : Env) : ZFn := ⟨30, [1, 7, 6, 3, 4, 0], fun cy Y fuel =>
 (zSeq (zReg fun k => (zL 1 false (.v 0)) ((zV 2 (vLenL (.l 0))) ((zV 1 (vMv (.k (.int .i64 0)))) k)))
 (zBlock 0 (zLoop fuel (zSeq (zReg fun k => (zP (vInt E fLss .lss 3 false false (.v 1) (.v 2))) k)
 (zSeq (zCond (.l 0) zSkip (zExit 0))
 (zSeq (zBlock 1 (zSeq (zReg fun k => (zV 3 (vMv (.v 1))) k)
 (zSeq (zReg fun k => (zP (vInt E fAdd .add 3 false true (.v 3) (.k (.int .i64 1)))) ((zV 4 (vMv (.l 0))) k))
 (zBlock 2 (zLoop fuel (zSeq (zSeq (zReg fun k => (zL 1 false (.v 0)) ((zP (vLenL (.l 0))) ((zP (vInt E fLss .lss 3 false false (.v 4) (.l 0))) k)))
 (zCond (.l 0) zSkip (zExit 2)))
 (zSeq (zBlock 3 (zSeq (zDreg 1 fun n0 k => (zLD B45 1 1 false (.v 0)) ((zPD (vIndexAddr 1 (.l 0) (.v 3))) ((zLD B45 4 1 false (.l 0)) ((zLD B45 5 1 false (.v 0)) ((zPD (vIndexAddr 1 (.l 0) (.v 4))) ((zLD B45 8 1 false (.l 0)) ((zStepD E (cy Y) B45 n0 ⟨.callv (.v 5) [(.l 3), (.l 0)], .push, none, false, 9, (some 0)⟩) ((zPD (vNot (.l 0))) k))))))))
 (zCond (.l 0) zRet zSkip)))
 (zReg fun k => (zP (vMv (.v 4))) ((zP (vInt E fAdd .add 3 false true (.l 0) (.k (.int .i64 1)))) ((zV 4 (vMv (.l 0))) k))))))))))
 (zReg fun k => (zP (vInt E fAdd .add 3 false true (.v 1) (.k (.int .i64 1)))) ((zV 1 (vMv (.l 0))) k)))))))), []⟩
theorem G135_ok (fn : Nat → Option Func) (pu : Nat → Bool) (pr : Nat → List AV → Option (Heap → Option (Eff × Acc))) : ZOk ⟨Tryz.tyT, fn, pu, pr⟩ npT F135 (G135 ⟨Tryz.tyT, fn, pu, pr⟩) := ⟨by kernel_rfl, by kernel_rfl, by kernel_rfl, fun cy Y k => by kernel_rfl⟩
noncomputable def F136 : FFn := cF LV 0 [0, 13, 12, 11, 7, 1, 2, 8, 9, 10, 6] Tryz.f136
noncomputable def G136 (E : Env) : ZFn := ⟨39, [0, 13, 12, 11, 7, 1, 2, 8, 9, 10, 6], fun cy Y fuel =>
 (zSeq (zReg fun k => (zV 10 (vMv (.k (.int .i64 0)))) k)
 (zSeq (zSeq (zReg fun k => (zV 3 (vMv (.v 0))) ((zV 2 (vLenL (.v 3))) ((zV 1 (vMv (.k (.int .i64 0)))) k)))
 (zBlock 0 (zLoop fuel (zSeq (zReg fun k => (zP (vInt E fLss .lss 3 false false (.v 1) (.v 2))) k)
 (zSeq (zCond (.l 0) zSkip (zExit 0))
 (zSeq (zBlock 1 (zSeq (zReg fun k => (zP (vIndexAddr 2 (.v 3) (.v 1))) ((zL 2 true (.l 0)) ((zStep E (cy Y) ⟨.alloc 43, (.var 7), none, false, 3, (some 0)⟩) ((zV 4 (vMv (.v 1))) ((zStep E (cy Y) ⟨.store 43 (.v 7) (.l 0), .none, none, false, 5, none⟩) k)))))
 (zSeq (zSeq (zReg fun k => (zP (vLenL (.v 5))) ((zP (vInt E (fGen .geq) .geq 3 false false (.v 4) (.l 0))) k))
 (zCond (.l 0) (zSeq (zReg fun k => (zV 10 (vMv (.k (.int .i64 1)))) k)
 zRet) zSkip))
 (zSeq (zReg fun k => (zP (vIndexAddr 2 (.v 5) (.v 4))) ((zL 2 true (.l 0)) ((zStep E (cy Y) ⟨.alloc 43, (.var 8), none, false, 4, (some 0)⟩) ((zStep E (cy Y) ⟨.store 43 (.v 8) (.l 0), .none, none, false, 5, none⟩) k))))
 (zSeq (zReg fun k => (zL 2 true (.v 7)) ((zL 2 true (.v 8)) ((zStep E (cy Y) ⟨.callv (.v 6) [(.l 1), (.l 0)], .push, none, false, 3, (some 0)⟩) ((zV 9 (vMv (.l 0))) k))))
 (zSeq (zReg fun k => (zP (vInt E fNeq .neq 3 false true (.v 9) (.k (.int .i64 0)))) k)
 (zCond (.l 0) (zSeq (zReg fun k => (zV 10 (vMv (.v 9))) k)
 zRet) zSkip)))))))
 (zReg fun k => (zP (vInt E fAdd .add 3 false true (.v 1) (.k (.int .i64 1)))) ((zV 1 (vMv (.l 0))) k))))))))
 (zSeq (zSeq (zReg fun k => (zP (vLenL (.v 0))) ((zP (vLenL (.v 5))) ((zP (vInt E fLss .lss 3 false false (.l 1) (.l 0))) k)))
 (zCond (.l 0) (zSeq (zReg fun k => (zV 10 (vMv (.k (.int .i64 (-1))))) k)
 zRet) zSkip))
 (zSeq (zReg fun k => (zV 10 (vMv (.k (.int .i64 0)))) k)
 zRet)))), [.tmp (.v 10)]⟩
theorem G136_ok (fn : Nat → Option Func) (pu : Nat → Bool) (pr : Nat → List AV → Option (Heap → Option (Eff × Acc))) : ZOk ⟨Tryz.tyT, fn, pu, pr⟩ npT F136 (G136 ⟨Tryz.tyT, fn, pu, pr⟩) := ⟨by kernel_rfl, by kernel_rfl, by kernel_rfl, fun cy Y k => by kernel_rfl⟩
noncomputable def F137 : FFn := cF LV 0 [0, 1, 2, 3, 4] Tryz.f137
noncomputable def G137 (E : Env) : ZFn := ⟨17, [0, 1, 2, 3, 4], fun cy Y fuel =>
 (zSeq (zReg fun k => (zStep E (cy Y) ⟨.box 43 (.v 0), (.var 2), none, false, 0, (some 0)⟩) ((zStep E (cy Y) ⟨.box 43 (.v 1), (.var 3), none, false, 1, (some 1)⟩) ((zV 4 (vMv (.k (.int .i64 0)))) k)))
 (zSeq (zDreg 4 fun n0 k => (zPD (vFieldAddr 0 (.v 2))) ((zLD B13 1 1 false (.l 0)) ((zPD (vFieldAddr 0 (.v 3))) ((zLD B13 3 1 false (.l 0)) ((zCallD (cy Y) B13 4 24 [(.l 2), (.l 0)] .push) ((zPD (vFieldAddr 1 (.v 2))) ((zLD B13 6 1 false (.l 0)) ((zPD (vFieldAddr 1 (.v 3))) ((zLD B13 8 1 false (.l 0)) ((zCallD (cy Y) B13 9 25 [(.l 2), (.l 0)] .push) ((zStepD E (cy Y) B13 n0 ⟨.buildSlice 76 2 [(0, (.l 5)), (1, (.l 0))], .push, none, false, 10, (some 2)⟩) ((zCallD (cy Y) B13 11 23 [(.l 0)] .push) ((zVD 4 (vMv (.l 0))) k)))))))))))))
 zRet)), [.tmp (.v 4)]⟩
theorem G137_ok (fn : Nat → Option Func) (pu : Nat → Bool) (pr : Nat → List AV → Option (Heap → Option (Eff × Acc))) : ZOk ⟨Tryz.tyT, fn, pu, pr⟩ npT F137 (G137 ⟨Tryz.tyT, fn, pu, pr⟩) := ⟨by kernel_rfl, by kernel_rfl, by kernel_rfl, fun cy Y k => by kernel_rfl⟩
noncomputable def F138 : FFn := cF LV 0 [0, 1, 4] Tryz.f138
noncomputable def G138 (E : Env) : ZFn := ⟨8, [0, 1, 4], fun cy Y fuel =>
 (zSeq (zReg fun k => (zV 2 (vMv (.k (.sl 0 [] true)))) k)
 (zSeq (zReg fun k => (zCall (cy Y) 153 [(.v 0), (.v 1), (.k (.clo 154 [])), (.k (.clo 155 []))] .push) ((zV 2 (vMv (.l 0))) k))
 zRet)), [.tmp (.v 2)]⟩
theorem G138_ok (fn : Nat → Option Func) (pu : Nat → Bool) (pr : Nat → List AV → Option (Heap → Option (Eff × Acc))) : ZOk ⟨Tryz.tyT, fn, pu, pr⟩ npT F138 (G138 ⟨Tryz.tyT, fn, pu, pr⟩) := ⟨by kernel_rfl, by kernel_rfl, by kernel_rfl, fun cy Y k => by kernel_rfl⟩
noncomputable def F141 : FFn := cF LV 0 [0, 1, 2, 3, 4, 5, 6] Tryz.f141
noncomputable def G141 (E : Env) : ZFn := ⟨8, [0, 1, 2, 3, 4, 5, 6], fun cy Y fuel =>
 (zSeq (zReg fun k => (zStep E (cy Y) ⟨.box 158 (.v 0), (.var 3), none, false, 0, (some 0)⟩) ((zStep E (cy Y) ⟨.box 158 (.v 1), (.var 4), none, false, 1, (some 1)⟩) ((zStep E (cy Y) ⟨.box 160 (.v 2), (.var 5), none, false, 2, (some 2)⟩) ((zV 6 (vMv (.k .nilFunc))) k))))
 (zSeq (zReg fun k => (zStep E (cy Y) ⟨.mkFunc 157 [(.v 3), (.v 4), (.v 5)], .push, none, false, 0, none⟩) ((zV 6 (vMv (.l 0))) k))
 zRet)), [.tmp (.v 6)]⟩
theorem G141_ok (fn : Nat → Option Func) (pu : Nat → Bool) (pr : Nat → List AV → Option (Heap → Option (Eff × Acc))) : ZOk ⟨Tryz.tyT, fn, pu, pr⟩ npT F141 (G141 ⟨Tryz.tyT, fn, pu, pr⟩) := ⟨by kernel_rfl, by kernel_rfl, by kernel_rfl, fun cy Y k => by kernel_rfl⟩
noncomputable def F142 : FFn := cF LV 0 [0, 10, 9, 8, 5, 7, 1, 6, 4] Tryz.f142
noncomputable def xbody142 (E : Env) (call : CallTT) : CZ := (zSeq (zReg fun k => (zP (vInt E fLss .lss 3 false false (.v 1) (.v 2))) k)
 (zSeq (zCond (.l 0) zSkip (zExit 0))
 (zSeq (zBlock 1 (zSeq (zReg fun k => (zP (vIndexAddr 1 (.v 3) (.v 1))) ((zL 1 false (.l 0)) ((zV 7 (vMv (.v 1))) ((zV 5 (vMv (.l 0))) k))))
 (zReg fun k => (zP (vMv (.v 4))) ((zP (vIndexAddr 5 (.v 6) (.v 7))) ((zStep E call ⟨.build 163 [(0, (.v 5)), (1, (.l 0))], .push, none, false, 5, none⟩) ((zStep E call ⟨.buildSlice 158 1 [(0, (.l 0))], .push, none, false, 6, (some 0)⟩) ((zStep E call ⟨.append 158 158 (.l 3) (.l 0), .push, none, false, 7, (some 1)⟩) ((zV 4 (vMv (.l 0))) k))))))))
 (zReg fun k => (zP (vInt E fAdd .add 3 false true (.v 1) (.k (.int .i64 1)))) ((zV 1 (vMv (.l 0))) k)))))
noncomputable def G142 (E : Env) : ZFn := ⟨25, [0, 10, 9, 8, 5, 7, 1, 6, 4], fun cy Y fuel =>
 (zSeq (zReg fun k => (zV 8 (vMv (.k (.sl 0 [] true)))) k)
 (zSeq (zReg fun k => (zV 4 (vMv (.k (.sl 0 [] true)))) k)
 (zSeq (zSeq (zReg fun k => (zV 3 (vMv (.v 0))) ((zV 2 (vLenL (.v 3))) ((zV 1 (vMv (.k (.int .i64 0)))) k)))
 (zBlock 0 (zLoop fuel (xbody142 E (cy Y)))))
 (zSeq (zReg fun k => (zV 8 (vMv (.v 4))) k)
 zRet)))), [.tmp (.v 8)]⟩
theorem G142_ok (fn : Nat → Option Func) (pu : Nat → Bool) (pr : Nat → List AV → Option (Heap → Option (Eff × Acc))) : ZOk ⟨Tryz.tyT, fn, pu, pr⟩ npT F142 (G142 ⟨Tryz.tyT, fn, pu, pr⟩) := ⟨by kernel_rfl, by kernel_rfl, by kernel_rfl, fun cy Y k => by kernel_rfl⟩
noncomputable def F143 : FFn := cF LV 0 [0, 1, 4] Tryz.f143
noncomputable def G143 (E : Env) : ZFn := ⟨8, [0, 1, 4], fun cy Y fuel =>
 (zSeq (zReg fun k => (zV 2 (vMv (.k (.int .i64 0)))) k)
 (zSeq (zReg fun k => (zCall (cy Y) 158 [(.v 0), (.v 1)] .push) ((zV 2 (vMv (.l 0))) k))
 zRet)), [.tmp (.v 2)]⟩
theorem G143_ok (fn : Nat → Option Func) (pu : Nat → Bool) (pr : Nat → List AV → Option (Heap → Option (Eff × Acc))) : ZOk ⟨Tryz.tyT, fn, pu, pr⟩ npT F143 (G143 ⟨Tryz.tyT, fn, pu, pr⟩) := ⟨by kernel_rfl, by kernel_rfl, by kernel_rfl, fun cy Y k => by kernel_rfl⟩
noncomputable def F144 : FFn := cF LV 0 [0, 1, 3, 4, 2, 5] Tryz.f144
noncomputable def G144 (E : Env) : ZFn := ⟨25, [0, 1, 3, 4, 2, 5], fun cy Y fuel =>
 (zSeq (zReg fun k => (zStep E (cy Y) ⟨.box 37 (.v 0), (.var 4), none, false, 0, (some 0)⟩) ((zStep E (cy Y) ⟨.box 163 (.v 1), (.var 2), none, false, 1, (some 1)⟩) ((zStep E (cy Y) ⟨.alloc 29, (.var 3), none, false, 2, (some 2)⟩) ((zV 5 (vMv (.k .nilIface))) k))))
 (zSeq (zSeq (zReg fun k => (zP (vFieldAddr 2 (.v 2))) ((zL 1 false (.l 0)) ((zP (vInt E fEql .eql 161 false true (.l 0) (.k .nilptr))) k)))
 (zCond (.l 0) (zSeq (zReg fun k => (zP (vFieldAddr 1 (.v 2))) ((zL 1 false (.l 0)) ((zP (vNilCheck (.l 0))) ((zL 5 true (.l 0)) ((zStep E (cy Y) ⟨.store 29 (.v 3) (.l 0), .none, none, false, 4, none⟩) ((zV 5 (vMv (.k .nilIface))) k))))))
 zRet) zSkip))
 (zSeq (zDreg 1 fun n0 k => (zLD B46 0 2 true (.v 4)) ((zPD (vFieldAddr 1 (.v 2))) ((zLD B46 2 1 false (.l 0)) ((zPD (vNilCheck (.l 0))) ((zLD B46 4 5 true (.l 0)) ((zPD (vFieldAddr 2 (.v 2))) ((zLD B46 6 1 false (.l 0)) ((zPD (vNilCheck (.l 0))) ((zLD B46 8 5 true (.l 0)) ((zCallD (cy Y) B46 9 109 [(.l 8), (.l 4), (.l 0)] .push) ((zPD (vExtract 0 (.l 0))) ((zPD (vExtract 1 (.l 1))) ((zStepD E (cy Y) B46 n0 ⟨.store 29 (.v 3) (.l 1), .none, none, false, 12, none⟩) ((zVD 5 (vMv (.l 0))) k))))))))))))))
 zRet))), [.cell (.v 3) 29, .tmp (.v 5)]⟩
theorem G144_ok (fn : Nat → Option Func) (pu : Nat → Bool) (pr : Nat → List AV → Option (Heap → Option (Eff × Acc))) : ZOk ⟨Tryz.tyT, fn, pu, pr⟩ npT F144 (G144 ⟨Tryz.tyT, fn, pu, pr⟩) := ⟨by kernel_rfl, by kernel_rfl, by kernel_rfl, fun cy Y k => by kernel_rfl⟩
noncomputable def F145 : FFn := cF LV 0 [0, 2] Tryz.f145
noncomputable def G145 (E : Env) : ZFn := ⟨5, [0, 2], fun cy Y fuel =>
 (zSeq (zReg fun k => (zV 1 (vMv (.k (.sl 0 [] true)))) k)
 (zSeq (zReg fun k => (zCall (cy Y) 159 [(.k (.sl 0 [] true)), (.v 0)] .push) ((zV 1 (vMv (.l 0))) k))
 zRet)), [.tmp (.v 1)]⟩
theorem G145_ok (fn : Nat → Option Func) (pu : Nat → Bool) (pr : Nat → List AV → Option (Heap → Option (Eff × Acc))) : ZOk ⟨Tryz.tyT, fn, pu, pr⟩ npT F145 (G145 ⟨Tryz.tyT, fn, pu, pr⟩) := ⟨by kernel_rfl, by kernel_rfl, by kernel_rfl, fun cy Y k => by kernel_rfl⟩
noncomputable def F146 : FFn := cF LV 0 [0, 1, 2, 3, 4, 5, 6] Tryz.f146
noncomputable def G146 (E : Env) : ZFn := ⟨8, [0, 1, 2, 3, 4, 5, 6], fun cy Y fuel =>
 (zSeq (zReg fun k => (zStep E (cy Y) ⟨.box 165 (.v 0), (.var 3), none, false, 0, (some 0)⟩) ((zStep E (cy Y) ⟨.box 165 (.v 1), (.var 4), none, false, 1, (some 1)⟩) ((zStep E (cy Y) ⟨.box 104 (.v 2), (.var 5), none, false, 2, (some 2)⟩) ((zV 6 (vMv (.k .nilFunc))) k))))
 (zSeq (zReg fun k => (zStep E (cy Y) ⟨.mkFunc 160 [(.v 3), (.v 4), (.v 5)], .push, none, false, 0, none⟩) ((zV 6 (vMv (.l 0))) k))
 zRet)), [.tmp (.v 6)]⟩
theorem G146_ok (fn : Nat → Option Func) (pu : Nat → Bool) (pr : Nat → List AV → Option (Heap → Option (Eff × Acc))) : ZOk ⟨Tryz.tyT, fn, pu, pr⟩ npT F146 (G146 ⟨Tryz.tyT, fn, pu, pr⟩) := ⟨by kernel_rfl, by kernel_rfl, by kernel_rfl, fun cy Y k => by kernel_rfl⟩
noncomputable def F147 : FFn := cF LV 0 [0, 10, 9, 8, 5, 7, 1, 6, 4] Tryz.f147
noncomputable def G147 (E : Env) : ZFn := ⟨25, [0, 10, 9, 8, 5, 7, 1, 6, 4], fun cy Y fuel =>
 (zSeq (zReg fun k => (zV 8 (vMv (.k (.sl 0 [] true)))) k)
 (zSeq (zReg fun k => (zV 4 (vMv (.k (.sl 0 [] true)))) k)
 (zSeq (zSeq (zReg fun k => (zV 3 (vMv (.v 0))) ((zV 2 (vLenL (.v 3))) ((zV 1 (vMv (.k (.int .i64 0)))) k)))
 (zBlock 0 (zLoop fuel (zSeq (zReg fun k => (zP (vInt E fLss .lss 3 false false (.v 1) (.v 2))) k)
 (zSeq (zCond (.l 0) zSkip (zExit 0))
 (zSeq (zBlock 1 (zSeq (zReg fun k => (zP (vIndexAddr 1 (.v 3) (.v 1))) ((zL 1 false (.l 0)) ((zV 7 (vMv (.v 1))) ((zV 5 (vMv (.l 0))) k))))
 (zReg fun k => (zP (vMv (.v 4))) ((zP (vIndexAddr 5 (.v 6) (.v 7))) ((zStep E (cy Y) ⟨.build 168 [(0, (.v 5)), (1, (.l 0))], .push, none, false, 5, none⟩) ((zStep E (cy Y) ⟨.buildSlice 165 1 [(0, (.l 0))], .push, none, false, 6, (some 0)⟩) ((zStep E (cy Y) ⟨.append 165 165 (.l 3) (.l 0), .push, none, false, 7, (some 1)⟩) ((zV 4 (vMv (.l 0))) k))))))))
 (zReg fun k => (zP (vInt E fAdd .add 3 false true (.v 1) (.k (.int .i64 1)))) ((zV 1 (vMv (.l 0))) k))))))))
 (zSeq (zReg fun k => (zV 8 (vMv (.v 4))) k)
 zRet)))), [.tmp (.v 8)]⟩
theorem G147_ok (fn : Nat → Option Func) (pu : Nat → Bool) (pr : Nat → List AV → Option (Heap → Option (Eff × Acc))) : ZOk ⟨Tryz.tyT, fn, pu, pr⟩ npT F147 (G147 ⟨Tryz.tyT, fn, pu, pr⟩) := ⟨by kernel_rfl, by kernel_rfl, by kernel_rfl, fun cy Y k => by kernel_rfl⟩
noncomputable def F148 : FFn := cF LV 0 [0, 1, 4] Tryz.f148
noncomputable def G148 (E : Env) : ZFn := ⟨8, [0, 1, 4], fun cy Y fuel =>
 (zSeq (zReg fun k => (zV 2 (vMv (.k (.int .i64 0)))) k)
 (zSeq (zReg fun k => (zCall (cy Y) 136 [(.v 0), (.v 1), (.k (.clo 161 []))] .push) ((zV 2 (vMv (.l 0))) k))
 zRet)), [.tmp (.v 2)]⟩
theorem G148_ok (fn : Nat → Option Func) (pu : Nat → Bool) (pr : Nat → List AV → Option (Heap → Option (Eff × Acc))) : ZOk ⟨Tryz.tyT, fn, pu, pr⟩ npT F148 (G148 ⟨Tryz.tyT, fn, pu, pr⟩) := ⟨by kernel_rfl, by kernel_rfl, by kernel_rfl, fun cy Y k => by kernel_rfl⟩
noncomputable def F149 : FFn := cF LV 0 [0, 1, 4] Tryz.f149
noncomputable def G149 (E : Env) : ZFn := ⟨9, [0, 1, 4], fun cy Y fuel =>
 (zSeq (zReg fun k => (zV 2 (vMv (.k (.bool false)))) k)
 (zSeq (zReg fun k => (zCall (cy Y) 162 [(.v 0), (.v 1)] .push) ((zP (vInt E (fGen .geq) .geq 3 false true (.l 0) (.k (.int .i64 0)))) ((zV 2 (vMv (.l 0))) k)))
 zRet)), [.tmp (.v 2)]⟩
theorem G149_ok (fn : Nat → Option Func) (pu : Nat → Bool) (pr : Nat → List AV → Option (Heap → Option (Eff × Acc))) : ZOk ⟨Tryz.tyT, fn, pu, pr⟩ npT F149 (G149 ⟨Tryz.tyT, fn, pu, pr⟩) := ⟨by kernel_rfl, by kernel_rfl, by kernel_rfl, fun cy Y k => by kernel_rfl⟩
noncomputable def F150 : FFn := cF LV 0 [0, 1, 2, 3] Tryz.f150
noncomputable def G150 (E : Env) : ZFn := ⟨10, [0, 1, 2, 3], fun cy Y fuel =>
 (zSeq (zReg fun k => (zStep E (cy Y) ⟨.box 168 (.v 0), (.var 2), none, false, 0, (some 0)⟩) ((zV 3 (vMv (.k (.bool false)))) k))
 (zSeq (zReg fun k => (zP (vFieldAddr 0 (.v 1))) ((zL 1 false (.l 0)) ((zP (vFieldAddr 0 (.v 2))) ((zL 1 false (.l 0)) ((zCall (cy Y) 117 [(.l 2), (.l 0)] .push) ((zP (vInt E fEql .eql 3 false true (.l 0) (.k (.int .i64 (-1))))) ((zV 3 (vMv (.l 0))) k)))))))
 zRet)), [.tmp (.v 3)]⟩
theorem G150_ok (fn : Nat → Option Func) (pu : Nat → Bool) (pr : Nat → List AV → Option (Heap → Option (Eff × Acc))) : ZOk ⟨Tryz.tyT, fn, pu, pr⟩ npT F150 (G150 ⟨Tryz.tyT, fn, pu, pr⟩) := ⟨by kernel_rfl, by kernel_rfl, by kernel_rfl, fun cy Y k => by kernel_rfl⟩
noncomputable def F151 : FFn := cF LV 0 [0, 1, 3, 4, 2, 5] Tryz.f151
noncomputable def G151 (E : Env) : ZFn := ⟨25, [0, 1, 3, 4, 2, 5], fun cy Y fuel =>
 (zSeq (zReg fun k => (zStep E (cy Y) ⟨.box 37 (.v 0), (.var 4), none, false, 0, (some 0)⟩) ((zStep E (cy Y) ⟨.box 168 (.v 1), (.var 2), none, false, 1, (some 1)⟩) ((zStep E (cy Y) ⟨.alloc 29, (.var 3), none, false, 2, (some 2)⟩) ((zV 5 (vMv (.k .nilIface))) k))))
 (zSeq (zSeq (zReg fun k => (zP (vFieldAddr 2 (.v 2))) ((zL 1 false (.l 0)) ((zP (vInt E fEql .eql 161 false true (.l 0) (.k .nilptr))) k)))
 (zCond (.l 0) (zSeq (zReg fun k => (zP (vFieldAddr 1 (.v 2))) ((zL 1 false (.l 0)) ((zP (vNilCheck (.l 0))) ((zL 5 true (.l 0)) ((zStep E (cy Y) ⟨.store 29 (.v 3) (.l 0), .none, none, false, 4, none⟩) ((zV 5 (vMv (.k .nilIface))) k))))))
 zRet) zSkip))
 (zSeq (zDreg 1 fun n0 k => (zLD B46 0 2 true (.v 4)) ((zPD (vFieldAddr 1 (.v 2))) ((zLD B46 2 1 false (.l 0)) ((zPD (vNilCheck (.l 0))) ((zLD B46 4 5 true (.l 0)) ((zPD (vFieldAddr 2 (.v 2))) ((zLD B46 6 1 false (.l 0)) ((zPD (vNilCheck (.l 0))) ((zLD B46 8 5 true (.l 0)) ((zCallD (cy Y) B46 9 109 [(.l 8), (.l 4), (.l 0)] .push) ((zPD (vExtract 0 (.l 0))) ((zPD (vExtract 1 (.l 1))) ((zStepD E (cy Y) B46 n0 ⟨.store 29 (.v 3) (.l 1), .none, none, false, 12, none⟩) ((zVD 5 (vMv (.l 0))) k))))))))))))))
 zRet))), [.cell (.v 3) 29, .tmp (.v 5)]⟩
theorem G151_ok (fn : Nat → Option Func) (pu : Nat → Bool) (pr : Nat → List AV → Option (Heap → Option (Eff × Acc))) : ZOk ⟨Tryz.tyT, fn, pu, pr⟩ npT F151 (G151 ⟨Tryz.tyT, fn, pu, pr⟩) := ⟨by kernel_rfl, by kernel_rfl, by kernel_rfl, fun cy Y k => by kernel_rfl⟩
noncomputable def F152 : FFn := cF LV 0 [3, 1, 0] Tryz.f152
noncomputable def xbody152 (E : Env) (call : CallTT) : CZ := (zSeq (zSeq (zReg fun k => (zL 1 false (.v 1)) ((zP (vLenL (.l 0))) ((zP (vInt E fLss .lss 3 false false (.v 0) (.l 0))) k)))
 (zCond (.l 0) zSkip (zExit 0)))
 (zSeq (zBlock 1 (zSeq (zDreg 1 fun n0 k => (zLD B47 1 1 false (.v 1)) ((zPD (vInt E fSub .sub 3 false true (.v 0) (.k (.int .i64 1)))) ((zPD (vIndexAddr 1 (.l 1) (.l 0))) ((zLD B47 5 1 false (.l 0)) ((zLD B47 6 1 false (.v 1)) ((zPD (vIndexAddr 1 (.l 0) (.v 0))) ((zLD B47 9 1 false (.l 0)) ((zStepD E call B47 n0 ⟨.callv (.v 2) [(.l 3), (.l 0)], .push, none, false, 10, (some 0)⟩) ((zPD (vNot (.l 0))) k)))))))))
 (zCond (.l 0) zRet zSkip)))
 (zReg fun k => (zP (vMv (.v 0))) ((zP (vInt E fAdd .add 3 false true (.l 0) (.k (.int .i64 1)))) ((zV 0 (vMv (.l 0))) k)))))
noncomputable def G152 (E : Env) : ZFn := ⟨22, [3, 1, 0], fun cy Y fuel =>
 (zSeq (zReg fun k => (zV 0 (vMv (.k (.int .i64 1)))) k)
 (zBlock 0 (zLoop fuel (xbody152 E (cy Y))))), []⟩
theorem G152_ok (fn : Nat → Option Func) (pu : Nat → Bool) (pr : Nat → List AV → Option (Heap → Option (Eff × Acc))) : ZOk ⟨Tryz.tyT, fn, pu, pr⟩ npT F152 (G152 ⟨Tryz.tyT, fn, pu, pr⟩) := ⟨by kernel_rfl, by kernel_rfl, by kernel_rfl, fun cy Y k => by kernel_rfl⟩
end Go.Proofs.PxM6
