/- The functions of the seat, in one breath: part 0. -/
import Derived.Test.YtpdgbkmpcahjjaaPb3
import Derived.Test.YtpdgbkmpcahjjaaProg
import Derived.Test.YtpdgbkmpcahjjaaPxEnvV2
import Derived.KernelRfl
set_option maxRecDepth 100000
set_option linter.unusedVariables false
set_option linter.unusedSimpArgs false
namespace Go.Proofs.PxV2
open Go Go.Px Go.Proofs
def B0 : List Nat := [0, 1, 0, 7, 15, 31, 63, 63, 255, 63, 63, 2047, 4095, 8191, 16383, 32767, 65535, 32767, 262143, 524287, 1048575, 2097151]
def B1 : List Nat := [0, 0, 3, 0, 0, 31, 63, 127, 255, 511, 255, 2047, 4095, 8191, 16383, 32767, 32767, 131071, 32767, 32767, 1048575, 2097151, 4194303, 8388607, 16777215, 16777215, 67108863, 16777215, 16777215, 536870911, 1073741823, 2147483647, 4294967295, 8589934591, 8589934591, 8589934591, 68719476735, 8589934591, 8589934591, 8589934591, 1099511627775, 2199023255551, 4398046511103, 8796093022207]
def B2 : List Nat := [0, 1, 3, 7, 15, 31, 63, 127, 255, 511, 1023, 2047, 4095, 8191, 16383, 32767, 65535, 131071, 262143, 524287, 1048575, 2097151, 4194303, 8388607, 16777215, 33554431, 67108863, 134217727, 268435455, 536870911, 1073741823, 2147483647, 4294967295, 8589934591, 17179869183, 34359738367, 68719476735, 68719476735, 68719476735, 481036337151, 1099511627775, 2199023255551, 4398046511103, 8796093022207, 8796093022207, 35184372088831, 70368744177663, 140737488355327, 281474976710655, 562949953421311, 1125899906842623, 2251799813685247, 4503599627370495, 9007199254740991, 18014398509481983, 36028797018963967]
def B3 : List Nat := [0, 1, 3, 7, 15, 31, 63, 127, 255, 511, 1023, 2047, 4095, 8191, 16383, 32767, 65535, 131071, 262143, 131071, 655359, 2097151, 4194303, 131071, 16777215, 33554431, 67108863, 134217727]
def B4 : List Nat := [0, 1, 3, 7, 15, 31, 63, 127, 255, 511, 1023, 2047, 4095, 8191, 16383, 32767, 65535, 131071, 262143, 131071, 655359, 2097151, 4194303, 8388607, 131071, 16908287, 67108863, 134217727, 268435455]
def B5 : List Nat := [0, 1, 3, 7, 15, 31, 63, 127, 255, 511, 1023, 2047, 4095, 8191, 16383, 32767, 65535, 131071, 262143, 524287, 1048575, 2097151, 4194303, 8388607, 16777215, 33554431, 67108863, 134217727, 268435455, 536870911, 1073741823, 536870911, 2684354559, 8589934591, 17179869183, 34359738367, 536870911, 69256347647, 274877906943, 549755813887, 1099511627775]
def B6 : List Nat := [0, 1, 0, 7, 15, 0, 32, 0, 224, 480, 1023]
def B7 : List Nat := [0, 1, 0, 4, 15, 0, 0, 64, 192, 480, 1023, 2047]
def B8 : List Nat := [0, 1, 3, 0, 8, 31, 63, 0, 255]
def B9 : List Nat := [0, 1, 0, 4, 0, 28, 60, 127, 255, 511]
def B10 : List Nat := [0, 0, 3, 7, 0, 0, 48, 112, 255]
def B11 : List Nat := [0, 1, 0, 4, 12, 0, 63, 0, 128, 511, 1023, 2047]
def B12 : List Nat := [0, 1, 0, 0, 8, 28, 63, 0, 128, 511, 1023]
def B13 : List Nat := [0, 1, 3, 0, 8, 0, 32, 127, 255, 511]
def B14 : List Nat := [0, 1, 0, 4, 0, 0, 32, 0, 128, 384, 896, 2032, 4092, 8191, 16383]
def B15 : List Nat := [0, 0, 0, 0, 0, 24, 56, 0, 252, 511, 1023]
def B16 : List Nat := [0, 1, 0, 4, 15, 0, 32, 0, 128, 511, 1023, 2047, 4095]
def B17 : List Nat := [0, 0, 3, 7, 15, 0, 32, 127]
def B18 : List Nat := [0, 0, 0, 0, 12, 28, 60, 0, 128, 508, 1023, 2047, 4095]
def B19 : List Nat := [0, 0, 3, 7, 0, 16, 63, 0, 0, 384, 1023, 2047]
def B20 : List Nat := [0, 1, 0, 4, 15, 31]
def B21 : List Nat := [0, 1, 0, 0, 12, 28, 60, 127, 255, 511, 1023, 511, 511, 6655, 14847, 31231, 65535, 131071, 262143, 524287, 262143, 262143, 3407871, 7602175, 15990783, 33554431, 67108863, 134217727]
def B22 : List Nat := [0, 0, 0, 6, 14, 0, 63, 127]
def B23 : List Nat := [0, 0, 0, 6, 14, 30, 30, 30, 222, 478, 30, 2046, 4094, 8190, 4095, 32767]
def B24 : List Nat := [0, 0, 0, 4, 14, 30, 0, 0, 192, 448, 1023, 2047]
def LVL : List (Nat × List Nat) := [(0, [7, 8, 3, 4, 2])]
def LV (id : Nat) : List Nat := (lookT LVL id).getD []
def toldT : List Nat := [59, 61, 76, 80, 97]
def npT (f : Nat) : Bool := !(toldT.any fun g => Nat.beq g f)
noncomputable def L0 : LFn := ⟨12, [7, 8, 3, 4, 2], [(some 0), (some 1)], cC LV [7, 8, 3, 4, 2] 12 (codeAt [1, 0, 1, 0, 0] (bodyOf Try.f46)) 0, cC LV [7, 8, 3, 4, 2] 12 (codeAt [1, 0, 1, 0, 1] (bodyOf Try.f46)) 0⟩
noncomputable def M0 (E : Env) : ZLn := ⟨12, [7, 8, 3, 4, 2], [(some 0), (some 1)], fun cy Y fuel =>
 (zSeq (zReg fun k => (zV 2 (vMv (.v 0))) k)
 (zReg fun k => (zV 3 (vMv (.v 1))) k)), fun cy Y fuel =>
 (zBlock 1 (zSeq (zReg fun k => (zP (vInt E (fGen .geq) .geq 9 false false (.v 2) (.v 3))) k)
 (zCond (.l 0) (zSeq (zReg fun k => (zStep E (cy Y) ⟨.store 4 (.v 4) (.k (.bool false)), .none, none, false, 0, none⟩) k)
 zRet) zSkip)))⟩
theorem M0_ok (fn : Nat → Option Func) (pu : Nat → Bool) (pr : Nat → List AV → Option (Heap → Option (Eff × Acc))) : ZLOk ⟨Try.tyT, fn, pu, pr⟩ npT L0 (M0 ⟨Try.tyT, fn, pu, pr⟩) := ⟨rfl, fun cy Y k => by kernel_rfl, fun cy Y k => by kernel_rfl⟩
noncomputable def F3 : FFn := cF LV 0 [0, 1, 4, 5, 6, 3, 2, 10] Try.f3
noncomputable def G3 (E : Env) : ZFn := ⟨93, [0, 1, 4, 5, 6, 3, 2, 10], fun cy Y fuel =>
 (zSeq (zReg fun k => (zStep E (cy Y) ⟨.box 25 (.v 0), (.var 3), none, false, 0, (some 0)⟩) ((zStep E (cy Y) ⟨.box 25 (.v 1), (.var 4), none, false, 1, (some 1)⟩) ((zV 7 (vMv (.k (.bool false)))) k)))
 (zSeq (zSeq (zReg fun k => (zCall (cy Y) 9 [] .push) ((zP (vNot (.l 0))) k))
 (zCond (.l 0) (zSeq (zReg fun k => (zV 7 (vMv (.k (.bool false)))) k)
 zRet) zSkip))
 (zSeq (zSeq (zReg fun k => (zP (vLenS (.v 2))) ((zP (vInt E fGtr .gtr 3 false true (.l 0) (.k (.int .i64 40)))) k))
 (zCond (.l 0) (zSeq (zReg fun k => (zV 7 (vMv (.k (.bool true)))) k)
 zRet) zSkip))
 (zSeq (zSeq (zDreg 7 fun n0 k => (zLD B0 0 2 true (.v 3)) ((zCallD (cy Y) B0 1 10 [(.l 0)] .push) ((zLD B0 2 2 true (.v 3)) ((zCallD (cy Y) B0 3 11 [(.l 0)] .push) ((zPD (vInt E fNeq .neq 4 false false (.l 2) (.l 0))) ((zGD (.l 0) false .push (zLD B0 6 2 true (.v 3))) ((zGD (.l 1) false .push (zLD B0 7 2 true (.v 4))) ((zGD (.l 2) false .push (zCallD (cy Y) B0 8 12 [(.l 1), (.l 0)] .push)) ((zGD (.l 3) false .push (zLD B0 9 2 true (.v 3))) ((zGD (.l 4) false .push (zLD B0 10 2 true (.v 4))) ((zGD (.l 5) false .push (zCallD (cy Y) B0 11 13 [(.l 1), (.l 0)] .push)) ((zGD (.l 6) false .push (zPD (vInt E fNeq .neq 4 false false (.l 3) (.l 0)))) ((zPD (vPick (.l 7) (.k (.bool true)) (.l 0))) ((zGD (.l 0) false .push (zPD (vMv (.v 5)))) ((zGD (.l 1) false .push (zCallD (cy Y) B0 16 14 [(.l 0)] .push)) ((zGD (.l 2) false .push (zPD (vMv (.v 5)))) ((zGD (.l 3) false .push (zCallD (cy Y) B0 18 15 [(.l 0)] .push)) ((zGD (.l 4) false .push (zCallD (cy Y) B0 19 13 [(.l 2), (.l 0)] .push)) ((zGD (.l 5) false .push (zPD (vNot (.l 0)))) ((zPD (vPick (.l 6) (.k (.bool true)) (.l 0))) k))))))))))))))))))))
 (zCond (.l 0) (zSeq (zReg fun k => (zV 7 (vMv (.k (.bool false)))) k)
 zRet) zSkip))
 (zSeq (zSeq (zReg fun k => (zL 2 true (.v 3)) ((zCall (cy Y) 11 [(.l 0)] .push) ((zP (vNot (.l 0))) ((zG (.l 0) false .push (zL 2 true (.v 4))) ((zG (.l 1) false .push (zCall (cy Y) 11 [(.l 0)] .push)) ((zG (.l 2) false .push (zP (vNot (.l 0)))) ((zP (vPick (.l 3) (.k (.bool true)) (.l 0))) ((zG (.l 0) false .push (zL 2 true (.v 3))) ((zG (.l 1) false .push (zCall (cy Y) 16 [(.l 0)] .push)) ((zP (vPick (.l 2) (.k (.bool true)) (.l 0))) k))))))))))
 (zCond (.l 0) (zSeq (zReg fun k => (zV 7 (vMv (.k (.bool true)))) k)
 zRet) zSkip))
 (zSeq (zDreg 14 fun n0 k => (zLD B1 0 2 true (.v 3)) ((zLD B1 1 2 true (.v 4)) ((zCallD (cy Y) B1 2 17 [(.l 1), (.l 0)] .push) ((zLD B1 3 2 true (.v 3)) ((zLD B1 4 2 true (.v 4)) ((zCallD (cy Y) B1 5 18 [(.l 1), (.l 0)] .push) ((zCallD (cy Y) B1 6 13 [(.l 3), (.l 0)] .push) ((zGD (.l 0) true .push (zLD B1 8 2 true (.v 3))) ((zGD (.l 1) true .push (zCallD (cy Y) B1 9 20 [(.l 0)] .push)) ((zGD (.l 2) true .push (zLD B1 10 2 true (.v 3))) ((zGD (.l 3) true .push (zCallD (cy Y) B1 11 21 [(.l 0)] .push)) ((zGD (.l 4) true .push (zCallD (cy Y) B1 12 19 [(.l 2), (.l 0)] .push)) ((zPD (vPick (.l 5) (.l 0) (.k (.bool false)))) ((zGD (.l 0) true .push (zLD B1 15 2 true (.v 3))) ((zGD (.l 1) true .push (zPD (vMv (.v 6)))) ((zGD (.l 2) true .push (zCallD (cy Y) B1 17 22 [(.l 1), (.l 0)] .push)) ((zGD (.l 3) true .push (zLD B1 18 2 true (.v 3))) ((zGD (.l 4) true .push (zPD (vMv (.v 6)))) ((zGD (.l 5) true .push (zCallD (cy Y) B1 20 23 [(.l 1), (.l 0)] .push)) ((zGD (.l 6) true .push (zCallD (cy Y) B1 21 13 [(.l 3), (.l 0)] .push)) ((zPD (vPick (.l 7) (.l 0) (.k (.bool false)))) ((zGD (.l 0) true .push (zLD B1 24 2 true (.v 3))) ((zGD (.l 1) true .push (zPD (vMv (.v 2)))) ((zGD (.l 2) true .push (zCallD (cy Y) B1 26 24 [(.l 1), (.l 0)] .push)) ((zGD (.l 3) true .push (zLD B1 27 2 true (.v 3))) ((zGD (.l 4) true .push (zPD (vMv (.v 2)))) ((zGD (.l 5) true .push (zCallD (cy Y) B1 29 25 [(.l 1), (.l 0)] .push)) ((zGD (.l 6) true .push (zPD (vInt E fEql .eql 3 false false (.l 3) (.l 0)))) ((zPD (vPick (.l 7) (.l 0) (.k (.bool false)))) ((zGD (.l 0) true .push (zLD B1 33 2 true (.v 3))) ((zGD (.l 1) true .push (zPD (vMv (.v 2)))) ((zGD (.l 2) true .push (zPD (vMv (.v 5)))) ((zGD (.l 3) true .push (zCallD (cy Y) B1 36 26 [(.l 2), (.l 1), (.l 0)] .push)) ((zGD (.l 4) true .push (zLD B1 37 2 true (.v 3))) ((zGD (.l 5) true .push (zPD (vMv (.v 2)))) ((zGD (.l 6) true .push (zPD (vMv (.v 5)))) ((zGD (.l 7) true .push (zCallD (cy Y) B1 40 27 [(.l 2), (.l 1), (.l 0)] .push)) ((zGD (.l 8) true .push (zCallD (cy Y) B1 41 13 [(.l 4), (.l 0)] .push)) ((zPD (vPick (.l 9) (.l 0) (.k (.bool false)))) ((zVD 7 (vMv (.l 0))) k))))))))))))))))))))))))))))))))))))))))
 zRet)))))), [.tmp (.v 7)]⟩
theorem G3_ok (fn : Nat → Option Func) (pu : Nat → Bool) (pr : Nat → List AV → Option (Heap → Option (Eff × Acc))) : ZOk ⟨Try.tyT, fn, pu, pr⟩ npT F3 (G3 ⟨Try.tyT, fn, pu, pr⟩) := ⟨by kernel_rfl, by kernel_rfl, by kernel_rfl, fun cy Y k => by kernel_rfl⟩
noncomputable def F9 : FFn := cF LV 0 [1, 2, 3, 4, 0] Try.f9
noncomputable def G9 (E : Env) : ZFn := ⟨68, [1, 2, 3, 4, 0], fun cy Y fuel =>
 (zSeq (zReg fun k => (zV 4 (vMv (.k (.bool false)))) k)
 (zSeq (zReg fun k => (zCall (cy Y) 14 [(.k (.int .i64 2))] .push) ((zStep E (cy Y) ⟨.alloc 25, (.var 0), none, false, 1, (some 1)⟩) ((zStep E (cy Y) ⟨.store 25 (.v 0) (.l 0), .none, none, false, 2, none⟩) k)))
 (zSeq (zReg fun k => (zL 2 true (.v 0)) ((zCall (cy Y) 22 [(.l 0), (.k (.int .i64 1))] .push) ((zStep E (cy Y) ⟨.alloc 25, (.var 1), none, false, 2, (some 1)⟩) ((zStep E (cy Y) ⟨.store 25 (.v 1) (.l 0), .none, none, false, 3, none⟩) k))))
 (zSeq (zReg fun k => (zL 2 true (.v 0)) ((zCall (cy Y) 26 [(.l 0), (.k (.str [109, 49])), (.k (.int .i64 3))] .push) ((zStep E (cy Y) ⟨.alloc 25, (.var 2), none, false, 2, (some 1)⟩) ((zStep E (cy Y) ⟨.store 25 (.v 2) (.l 0), .none, none, false, 3, none⟩) k))))
 (zSeq (zReg fun k => (zL 2 true (.v 1)) ((zL 2 true (.v 2)) ((zCall (cy Y) 17 [(.l 1), (.l 0)] .push) ((zStep E (cy Y) ⟨.alloc 25, (.var 3), none, false, 3, (some 1)⟩) ((zStep E (cy Y) ⟨.store 25 (.v 3) (.l 0), .none, none, false, 4, none⟩) k)))))
 (zSeq (zDreg 12 fun n0 k => (zLD B2 0 2 true (.v 0)) ((zCallD (cy Y) B2 1 10 [(.l 0)] .push) ((zGD (.l 0) true .push (zLD B2 3 2 true (.v 0))) ((zGD (.l 1) true .push (zCallD (cy Y) B2 4 20 [(.l 0)] .push)) ((zGD (.l 2) true .push (zPD (vLenL (.l 0)))) ((zGD (.l 3) true .push (zPD (vInt E fEql .eql 3 false true (.l 0) (.k (.int .i64 2))))) ((zPD (vPick (.l 4) (.l 0) (.k (.bool false)))) ((zGD (.l 0) true .push (zLD B2 9 2 true (.v 1))) ((zGD (.l 1) true .push (zCallD (cy Y) B2 10 20 [(.l 0)] .push)) ((zGD (.l 2) true .push (zPD (vLenL (.l 0)))) ((zGD (.l 3) true .push (zPD (vInt E fEql .eql 3 false true (.l 0) (.k (.int .i64 1))))) ((zPD (vPick (.l 4) (.l 0) (.k (.bool false)))) ((zGD (.l 0) true .push (zLD B2 15 2 true (.v 2))) ((zGD (.l 1) true .push (zCallD (cy Y) B2 16 24 [(.l 0), (.k (.str [109, 49]))] .push)) ((zGD (.l 2) true .push (zPD (vInt E fEql .eql 3 false true (.l 0) (.k (.int .i64 3))))) ((zPD (vPick (.l 3) (.l 0) (.k (.bool false)))) ((zGD (.l 0) true .push (zLD B2 20 2 true (.v 0))) ((zGD (.l 1) true .push (zCallD (cy Y) B2 21 24 [(.l 0), (.k (.str [109, 49]))] .push)) ((zGD (.l 2) true .push (zPD (vInt E fEql .eql 3 false true (.l 0) (.k (.int .i64 2))))) ((zPD (vPick (.l 3) (.l 0) (.k (.bool false)))) ((zGD (.l 0) true .push (zLD B2 25 2 true (.v 3))) ((zGD (.l 1) true .push (zCallD (cy Y) B2 26 20 [(.l 0)] .push)) ((zGD (.l 2) true .push (zPD (vLenL (.l 0)))) ((zGD (.l 3) true .push (zPD (vInt E fEql .eql 3 false true (.l 0) (.k (.int .i64 1))))) ((zPD (vPick (.l 4) (.l 0) (.k (.bool false)))) ((zGD (.l 0) true .push (zLD B2 31 2 true (.v 3))) ((zGD (.l 1) true .push (zCallD (cy Y) B2 32 24 [(.l 0), (.k (.str [109, 49]))] .push)) ((zGD (.l 2) true .push (zPD (vInt E fEql .eql 3 false true (.l 0) (.k (.int .i64 3))))) ((zPD (vPick (.l 3) (.l 0) (.k (.bool false)))) ((zGD (.l 0) true .push (zLD B2 36 2 true (.v 3))) ((zGD (.l 1) true .push (zLD B2 37 2 true (.v 2))) ((zGD (.l 2) true .push (zLD B2 38 2 true (.v 1))) ((zGD (.l 3) true .push (zCallD (cy Y) B2 39 17 [(.l 1), (.l 0)] .push)) ((zGD (.l 4) true .push (zCallD (cy Y) B2 40 12 [(.l 3), (.l 0)] .push)) ((zPD (vPick (.l 5) (.l 0) (.k (.bool false)))) ((zGD (.l 0) true .push (zLD B2 43 2 true (.v 0))) ((zGD (.l 1) true .push (zLD B2 44 2 true (.v 1))) ((zGD (.l 2) true .push (zCallD (cy Y) B2 45 12 [(.l 1), (.l 0)] .push)) ((zGD (.l 3) true .push (zPD (vNot (.l 0)))) ((zPD (vPick (.l 4) (.l 0) (.k (.bool false)))) ((zGD (.l 0) true .push (zStepD E (cy Y) B2 n0 ⟨.build 55 [(0, (.k (.int .i64 9))), (1, (.k (.int .u64 1)))], .push, none, false, 49, none⟩)) ((zGD (.l 1) true .push (zStepD E (cy Y) B2 n0 ⟨.buildSlice 22 1 [(0, (.l 0))], .push, none, false, 50, (some 10)⟩)) ((zGD (.l 2) true .push (zStepD E (cy Y) B2 n0 ⟨.build 25 [(0, (.l 0))], .push, none, false, 51, none⟩)) ((zGD (.l 3) true .push (zCallD (cy Y) B2 52 10 [(.l 0)] .push)) ((zGD (.l 4) true .push (zPD (vNot (.l 0)))) ((zPD (vPick (.l 5) (.l 0) (.k (.bool false)))) ((zVD 4 (vMv (.l 0))) k)))))))))))))))))))))))))))))))))))))))))))))))
 zRet)))))), [.tmp (.v 4)]⟩
theorem G9_ok (fn : Nat → Option Func) (pu : Nat → Bool) (pr : Nat → List AV → Option (Heap → Option (Eff × Acc))) : ZOk ⟨Try.tyT, fn, pu, pr⟩ npT F9 (G9 ⟨Try.tyT, fn, pu, pr⟩) := ⟨by kernel_rfl, by kernel_rfl, by kernel_rfl, fun cy Y k => by kernel_rfl⟩
noncomputable def F10 : FFn := cF LV 0 [0, 1, 11, 10, 9, 4, 3, 48, 47, 46, 7, 5, 2] Try.f10
noncomputable def xbody10M (E : Env) (call : CallTT) : CZ := (zSeq (zReg fun k => (zP (vInt E fLss .lss 3 false false (.v 2) (.v 3))) k)
 (zSeq (zCond (.l 0) zSkip (zExit 0))
 (zSeq (zBlock 1 (zSeq (zReg fun k => (zP (vIndexAddr 2 (.v 4) (.v 2))) ((zL 2 true (.l 0)) ((zStep E call ⟨.alloc 55, (.var 5), none, false, 3, (some 0)⟩) ((zV 6 (vMv (.v 2))) ((zStep E call ⟨.store 55 (.v 5) (.l 0), .none, none, false, 5, none⟩) k)))))
 (zSeq (zDreg 1 fun n0 k => (zPD (vFieldAddr 0 (.v 5))) ((zLD B3 1 1 false (.l 0)) ((zPD (vInt E fLss .lss 3 false true (.l 0) (.k (.int .i64 0)))) ((zGD (.l 0) false .push (zPD (vFieldAddr 0 (.v 5)))) ((zGD (.l 1) false .push (zLD B3 5 1 false (.l 0))) ((zGD (.l 2) false .push (zPD (vInt E (fGen .geq) .geq 3 false true (.l 0) (.k (.int .i64 4))))) ((zPD (vPick (.l 3) (.k (.bool true)) (.l 0))) ((zGD (.l 0) false .push (zPD (vFieldAddr 1 (.v 5)))) ((zGD (.l 1) false .push (zLD B3 10 1 false (.l 0))) ((zGD (.l 2) false .push (zPD (vInt E fEql .eql 40 false true (.l 0) (.k (.int .u64 0))))) ((zPD (vPick (.l 3) (.k (.bool true)) (.l 0))) ((zGD (.l 0) false .push (zPD (vMv (.v 6)))) ((zGD (.l 1) false .push (zPD (vInt E fGtr .gtr 3 false true (.l 0) (.k (.int .i64 0))))) ((zGD (.l 2) false .push (zPD (vMv (.l 0)))) ((zGD (.l 0) true .push (zPD (vFieldAddr 0 (.v 1)))) ((zGD (.l 1) true .push (zLD B3 18 1 false (.l 0))) ((zGD (.l 2) true .push (zPD (vMv (.v 6)))) ((zGD (.l 3) true .push (zPD (vInt E fSub .sub 3 false true (.l 0) (.k (.int .i64 1))))) ((zGD (.l 4) true .push (zPD (vIndexAddr 2 (.l 2) (.l 0)))) ((zGD (.l 5) true .push (zLD B3 22 2 true (.l 0))) ((zGD (.l 6) true .push (zLD B3 23 2 true (.v 5))) ((zGD (.l 7) true .push (zCallD call B3 24 45 [(.l 1), (.l 0)] .push)) ((zGD (.l 8) true .push (zPD (vInt E (fGen .geq) .geq 3 false true (.l 0) (.k (.int .i64 0))))) ((zGD (.l 12) false .push (zPD (vPick (.l 9) (.l 0) (.k (.bool false))))) ((zPD (vPick (.l 13) (.k (.bool true)) (.l 0))) k)))))))))))))))))))))))))
 (zCond (.l 0) (zSeq (zReg fun k => (zV 12 (vMv (.k (.bool false)))) k)
 zRet) zSkip))))
 (zReg fun k => (zP (vInt E fAdd .add 3 false true (.v 2) (.k (.int .i64 1)))) ((zV 2 (vMv (.l 0))) k)))))
noncomputable def xbody10C (E : Env) (call : CallTT) : CZ := (zSeq (zReg fun k => (zP (vInt E fLss .lss 3 false false (.v 7) (.v 8))) k)
 (zSeq (zCond (.l 0) zSkip (zExit 2))
 (zSeq (zBlock 3 (zSeq (zReg fun k => (zP (vIndexAddr 3 (.v 9) (.v 7))) ((zL 3 true (.l 0)) ((zStep E call ⟨.alloc 59, (.var 10), none, false, 2, (some 0)⟩) ((zStep E call ⟨.store 59 (.v 10) (.l 0), .none, none, false, 3, none⟩) k))))
 (zSeq (zSeq (zReg fun k => (zP (vFieldAddr 0 (.v 10))) ((zL 1 false (.l 0)) ((zP (vInt E fEql .eql 9 false true (.l 0) (.k (.str [])))) ((zG (.l 0) false .push (zP (vFieldAddr 0 (.v 10)))) ((zG (.l 1) false .push (zL 1 false (.l 0))) ((zG (.l 2) false .push (zP (vLenS (.l 0)))) ((zG (.l 3) false .push (zP (vInt E fGtr .gtr 3 false true (.l 0) (.k (.int .i64 8))))) ((zP (vPick (.l 4) (.k (.bool true)) (.l 0))) ((zG (.l 0) false .push (zP (vFieldAddr 1 (.v 10)))) ((zG (.l 1) false .push (zL 1 false (.l 0))) ((zG (.l 2) false .push (zP (vInt E fEql .eql 40 false true (.l 0) (.k (.int .u64 0))))) ((zP (vPick (.l 3) (.k (.bool true)) (.l 0))) ((zG (.l 0) false .push (zP (vFieldAddr 2 (.v 10)))) ((zG (.l 1) false .push (zL 1 false (.l 0))) ((zG (.l 2) false .push (zP (vInt E fLss .lss 40 false true (.l 0) (.k (.int .u64 1))))) ((zP (vPick (.l 3) (.k (.bool true)) (.l 0))) ((zG (.l 0) false .push (zP (vFieldAddr 2 (.v 10)))) ((zG (.l 1) false .push (zL 1 false (.l 0))) ((zG (.l 2) false .push (zP (vInt E fGtr .gtr 40 false true (.l 0) (.k (.int .u64 3))))) ((zP (vPick (.l 3) (.k (.bool true)) (.l 0))) k))))))))))))))))))))
 (zCond (.l 0) (zSeq (zReg fun k => (zV 12 (vMv (.k (.bool false)))) k)
 zRet) zSkip))
 (zReg fun k => (zP (vMv (.v 11))) ((zP (vFieldAddr 0 (.v 10))) ((zL 1 false (.l 0)) ((zStep E call ⟨.buildSlice 57 1 [(0, (.l 0))], .push, none, false, 3, (some 0)⟩) ((zStep E call ⟨.append 57 57 (.l 3) (.l 0), .push, none, false, 4, (some 1)⟩) ((zV 11 (vMv (.l 0))) k)))))))))
 (zReg fun k => (zP (vInt E fAdd .add 3 false true (.v 7) (.k (.int .i64 1)))) ((zV 7 (vMv (.l 0))) k)))))
noncomputable def G10 (E : Env) : ZFn := ⟨89, [0, 1, 11, 10, 9, 4, 3, 48, 47, 46, 7, 5, 2], fun cy Y fuel =>
 (zSeq (zReg fun k => (zStep E (cy Y) ⟨.box 25 (.v 0), (.var 1), none, false, 0, (some 0)⟩) ((zV 12 (vMv (.k (.bool false)))) k))
 (zSeq (zSeq (zReg fun k => (zP (vFieldAddr 0 (.v 1))) ((zDstW (.var 4) (wLoad 1 false (.l 0))) ((zV 3 (vLenL (.v 4))) ((zV 2 (vMv (.k (.int .i64 0)))) k))))
 (zBlock 0 (zLoop fuel (xbody10M E (cy Y)))))
 (zSeq (zReg fun k => (zV 11 (vMv (.k (.sl 0 [] true)))) k)
 (zSeq (zSeq (zReg fun k => (zP (vFieldAddr 1 (.v 1))) ((zDstW (.var 9) (wLoad 1 false (.l 0))) ((zV 8 (vLenL (.v 9))) ((zV 7 (vMv (.k (.int .i64 0)))) k))))
 (zBlock 2 (zLoop fuel (xbody10C E (cy Y)))))
 (zSeq (zReg fun k => (zCall (cy Y) 46 [(.v 11)] .push) ((zG (.l 0) true .push (zP (vMv (.v 11)))) ((zG (.l 1) true .push (zP (vLenL (.l 0)))) ((zG (.l 2) true .push (zP (vInt E (fGen .leq) .leq 3 false true (.l 0) (.k (.int .i64 40))))) ((zP (vPick (.l 3) (.l 0) (.k (.bool false)))) ((zV 12 (vMv (.l 0))) k))))))
 zRet))))), [.tmp (.v 12)]⟩
theorem G10_ok (fn : Nat → Option Func) (pu : Nat → Bool) (pr : Nat → List AV → Option (Heap → Option (Eff × Acc))) : ZOk ⟨Try.tyT, fn, pu, pr⟩ npT F10 (G10 ⟨Try.tyT, fn, pu, pr⟩) := ⟨by kernel_rfl, by kernel_rfl, by kernel_rfl, fun cy Y k => by kernel_rfl⟩
noncomputable def F11 : FFn := cF LV 0 [0, 3, 1, 4, 5, 6, 2] Try.f11
noncomputable def xcM (E : Env) (call : CallTT) : CZ := (zDreg 0 fun n0 k => (zPD (vFieldAddr 0 (.v 3))) ((zLD B4 1 1 false (.l 0)) ((zPD (vInt E fLss .lss 3 false true (.l 0) (.k (.int .i64 0)))) ((zGD (.l 0) false .push (zPD (vFieldAddr 0 (.v 3)))) ((zGD (.l 1) false .push (zLD B4 5 1 false (.l 0))) ((zGD (.l 2) false .push (zPD (vInt E (fGen .geq) .geq 3 false true (.l 0) (.k (.int .i64 4))))) ((zPD (vPick (.l 3) (.k (.bool true)) (.l 0))) ((zGD (.l 0) false .push (zPD (vFieldAddr 1 (.v 3)))) ((zGD (.l 1) false .push (zLD B4 10 1 false (.l 0))) ((zGD (.l 2) false .push (zPD (vInt E fEql .eql 40 false true (.l 0) (.k (.int .u64 0))))) ((zPD (vPick (.l 3) (.k (.bool true)) (.l 0))) ((zGD (.l 0) false .push (zPD (vMv (.v 1)))) ((zGD (.l 1) false .push (zPD (vInt E fGtr .gtr 3 false true (.l 0) (.k (.int .i64 0))))) ((zGD (.l 2) false .push (zPD (vMv (.l 0)))) ((zGD (.l 0) true .push (zPD (vFieldAddr 0 (.v 2)))) ((zGD (.l 1) true .push (zLD B4 18 1 false (.l 0))) ((zGD (.l 2) true .push (zPD (vMv (.v 1)))) ((zGD (.l 3) true .push (zPD (vInt E fSub .sub 3 false true (.l 0) (.k (.int .i64 1))))) ((zGD (.l 4) true .push (zPD (vIndexAddr 2 (.l 2) (.l 0)))) ((zGD (.l 5) true .push (zPD (vFieldAddr 0 (.l 0)))) ((zGD (.l 6) true .push (zLD B4 23 1 false (.l 0))) ((zGD (.l 7) true .push (zPD (vFieldAddr 0 (.v 3)))) ((zGD (.l 8) true .push (zLD B4 25 1 false (.l 0))) ((zGD (.l 9) true .push (zPD (vInt E (fGen .geq) .geq 3 false false (.l 2) (.l 0)))) ((zGD (.l 13) false .push (zPD (vPick (.l 10) (.l 0) (.k (.bool false))))) ((zPD (vPick (.l 14) (.k (.bool true)) (.l 0))) k))))))))))))))))))))))))))
noncomputable def xcC (E : Env) (call : CallTT) : CZ := (zDreg 0 fun n0 k => (zPD (vFieldAddr 0 (.v 5))) ((zLD B5 1 1 false (.l 0)) ((zPD (vLenS (.l 0))) ((zPD (vInt E fLss .lss 3 false true (.l 0) (.k (.int .i64 1)))) ((zGD (.l 0) false .push (zPD (vFieldAddr 0 (.v 5)))) ((zGD (.l 1) false .push (zLD B5 6 1 false (.l 0))) ((zGD (.l 2) false .push (zPD (vLenS (.l 0)))) ((zGD (.l 3) false .push (zPD (vInt E fGtr .gtr 3 false true (.l 0) (.k (.int .i64 8))))) ((zPD (vPick (.l 4) (.k (.bool true)) (.l 0))) ((zGD (.l 0) false .push (zPD (vFieldAddr 1 (.v 5)))) ((zGD (.l 1) false .push (zLD B5 12 1 false (.l 0))) ((zGD (.l 2) false .push (zPD (vInt E fEql .eql 40 false true (.l 0) (.k (.int .u64 0))))) ((zPD (vPick (.l 3) (.k (.bool true)) (.l 0))) ((zGD (.l 0) false .push (zPD (vFieldAddr 2 (.v 5)))) ((zGD (.l 1) false .push (zLD B5 17 1 false (.l 0))) ((zGD (.l 2) false .push (zPD (vInt E fLss .lss 40 false true (.l 0) (.k (.int .u64 1))))) ((zPD (vPick (.l 3) (.k (.bool true)) (.l 0))) ((zGD (.l 0) false .push (zPD (vFieldAddr 2 (.v 5)))) ((zGD (.l 1) false .push (zLD B5 22 1 false (.l 0))) ((zGD (.l 2) false .push (zPD (vInt E fGtr .gtr 40 false true (.l 0) (.k (.int .u64 3))))) ((zPD (vPick (.l 3) (.k (.bool true)) (.l 0))) ((zGD (.l 0) false .push (zPD (vMv (.v 4)))) ((zGD (.l 1) false .push (zPD (vInt E fGtr .gtr 3 false true (.l 0) (.k (.int .i64 0))))) ((zGD (.l 2) false .push (zPD (vMv (.l 0)))) ((zGD (.l 0) true .push (zPD (vFieldAddr 1 (.v 2)))) ((zGD (.l 1) true .push (zLD B5 30 1 false (.l 0))) ((zGD (.l 2) true .push (zPD (vMv (.v 4)))) ((zGD (.l 3) true .push (zPD (vInt E fSub .sub 3 false true (.l 0) (.k (.int .i64 1))))) ((zGD (.l 4) true .push (zPD (vIndexAddr 3 (.l 2) (.l 0)))) ((zGD (.l 5) true .push (zPD (vFieldAddr 0 (.l 0)))) ((zGD (.l 6) true .push (zLD B5 35 1 false (.l 0))) ((zGD (.l 7) true .push (zPD (vFieldAddr 0 (.v 5)))) ((zGD (.l 8) true .push (zLD B5 37 1 false (.l 0))) ((zGD (.l 9) true .push (zPD (vInt E (fGen .geq) .geq 9 false false (.l 2) (.l 0)))) ((zGD (.l 13) false .push (zPD (vPick (.l 10) (.l 0) (.k (.bool false))))) ((zPD (vPick (.l 14) (.k (.bool true)) (.l 0))) k))))))))))))))))))))))))))))))))))))
noncomputable def G11 (E : Env) : ZFn := ⟨105, [0, 3, 1, 4, 5, 6, 2], fun cy Y fuel =>
 (zSeq (zReg fun k => (zStep E (cy Y) ⟨.box 25 (.v 0), (.var 2), none, false, 0, (some 0)⟩) ((zV 6 (vMv (.k (.bool false)))) k))
 (zSeq (zSeq (zReg fun k => (zV 1 (vMv (.k (.int .i64 0)))) k)
 (zBlock 0 (zLoop fuel (zSeq (zSeq (zReg fun k => (zP (vFieldAddr 0 (.v 2))) ((zL 1 false (.l 0)) ((zP (vLenL (.l 0))) ((zP (vInt E fLss .lss 3 false false (.v 1) (.l 0))) k))))
 (zCond (.l 0) zSkip (zExit 0)))
 (zSeq (zBlock 1 (zSeq (zReg fun k => (zP (vFieldAddr 0 (.v 2))) ((zL 1 false (.l 0)) ((zP (vIndexAddr 2 (.l 0) (.v 1))) ((zL 2 true (.l 0)) ((zStep E (cy Y) ⟨.alloc 55, (.var 3), none, false, 5, (some 0)⟩) ((zStep E (cy Y) ⟨.store 55 (.v 3) (.l 0), .none, none, false, 6, none⟩) k))))))
 (zSeq (xcM E (cy Y))
 (zCond (.l 0) (zSeq (zReg fun k => (zV 6 (vMv (.k (.bool false)))) k)
 zRet) zSkip))))
 (zReg fun k => (zP (vMv (.v 1))) ((zP (vInt E fAdd .add 3 false true (.l 0) (.k (.int .i64 1)))) ((zV 1 (vMv (.l 0))) k))))))))
 (zSeq (zSeq (zReg fun k => (zV 4 (vMv (.k (.int .i64 0)))) k)
 (zBlock 2 (zLoop fuel (zSeq (zSeq (zReg fun k => (zP (vFieldAddr 1 (.v 2))) ((zL 1 false (.l 0)) ((zP (vLenL (.l 0))) ((zP (vInt E fLss .lss 3 false false (.v 4) (.l 0))) k))))
 (zCond (.l 0) zSkip (zExit 2)))
 (zSeq (zBlock 3 (zSeq (zReg fun k => (zP (vFieldAddr 1 (.v 2))) ((zL 1 false (.l 0)) ((zP (vIndexAddr 3 (.l 0) (.v 4))) ((zL 3 true (.l 0)) ((zStep E (cy Y) ⟨.alloc 59, (.var 5), none, false, 5, (some 0)⟩) ((zStep E (cy Y) ⟨.store 59 (.v 5) (.l 0), .none, none, false, 6, none⟩) k))))))
 (zSeq (xcC E (cy Y))
 (zCond (.l 0) (zSeq (zReg fun k => (zV 6 (vMv (.k (.bool false)))) k)
 zRet) zSkip))))
 (zReg fun k => (zP (vMv (.v 4))) ((zP (vInt E fAdd .add 3 false true (.l 0) (.k (.int .i64 1)))) ((zV 4 (vMv (.l 0))) k))))))))
 (zSeq (zReg fun k => (zP (vFieldAddr 1 (.v 2))) ((zL 1 false (.l 0)) ((zP (vLenL (.l 0))) ((zP (vInt E (fGen .leq) .leq 3 false true (.l 0) (.k (.int .i64 40)))) ((zV 6 (vMv (.l 0))) k)))))
 zRet)))), [.tmp (.v 6)]⟩
theorem G11_ok (fn : Nat → Option Func) (pu : Nat → Bool) (pr : Nat → List AV → Option (Heap → Option (Eff × Acc))) : ZOk ⟨Try.tyT, fn, pu, pr⟩ npT F11 (G11 ⟨Try.tyT, fn, pu, pr⟩) := ⟨by kernel_rfl, by kernel_rfl, by kernel_rfl, fun cy Y k => by kernel_rfl⟩
noncomputable def F12 : FFn := cF LV 0 [0, 1, 2, 3, 4] Try.f12
noncomputable def G12 (E : Env) : ZFn := ⟨17, [0, 1, 2, 3, 4], fun cy Y fuel =>
 (zSeq (zReg fun k => (zStep E (cy Y) ⟨.box 25 (.v 0), (.var 2), none, false, 0, (some 0)⟩) ((zStep E (cy Y) ⟨.box 25 (.v 1), (.var 3), none, false, 1, (some 1)⟩) ((zV 4 (vMv (.k (.bool false)))) k)))
 (zSeq (zReg fun k => (zP (vFieldAddr 0 (.v 2))) ((zL 1 false (.l 0)) ((zP (vFieldAddr 0 (.v 3))) ((zL 1 false (.l 0)) ((zCall (cy Y) 47 [(.l 2), (.l 0)] .push) ((zG (.l 0) true .push (zP (vFieldAddr 1 (.v 2)))) ((zG (.l 1) true .push (zL 1 false (.l 0))) ((zG (.l 2) true .push (zP (vFieldAddr 1 (.v 3)))) ((zG (.l 3) true .push (zL 1 false (.l 0))) ((zG (.l 4) true .push (zCall (cy Y) 48 [(.l 2), (.l 0)] .push)) ((zP (vPick (.l 5) (.l 0) (.k (.bool false)))) ((zV 4 (vMv (.l 0))) k))))))))))))
 zRet)), [.tmp (.v 4)]⟩
theorem G12_ok (fn : Nat → Option Func) (pu : Nat → Bool) (pr : Nat → List AV → Option (Heap → Option (Eff × Acc))) : ZOk ⟨Try.tyT, fn, pu, pr⟩ npT F12 (G12 ⟨Try.tyT, fn, pu, pr⟩) := ⟨by kernel_rfl, by kernel_rfl, by kernel_rfl, fun cy Y k => by kernel_rfl⟩
noncomputable def F13 : FFn := cF LV 0 [0, 1, 2, 3, 5, 6, 4] Try.f13
noncomputable def xbody13M (E : Env) (call : CallTT) : CZ := (zSeq (zSeq (zReg fun k => (zP (vFieldAddr 0 (.v 2))) ((zL 1 false (.l 0)) ((zP (vLenL (.l 0))) ((zP (vInt E fLss .lss 3 false false (.v 4) (.l 0))) k))))
 (zCond (.l 0) zSkip (zExit 0)))
 (zSeq (zBlock 1 (zSeq (zDreg 0 fun n0 k => (zPD (vFieldAddr 0 (.v 2))) ((zLD B6 1 1 false (.l 0)) ((zPD (vIndexAddr 2 (.l 0) (.v 4))) ((zLD B6 4 2 true (.l 0)) ((zPD (vFieldAddr 0 (.v 3))) ((zLD B6 6 1 false (.l 0)) ((zPD (vIndexAddr 2 (.l 0) (.v 4))) ((zLD B6 9 2 true (.l 0)) ((zPD (vInt E fNeq .neq 55 false false (.l 4) (.l 0))) k)))))))))
 (zCond (.l 0) (zSeq (zReg fun k => (zV 6 (vMv (.k (.bool false)))) k)
 zRet) zSkip)))
 (zReg fun k => (zP (vMv (.v 4))) ((zP (vInt E fAdd .add 3 false true (.l 0) (.k (.int .i64 1)))) ((zV 4 (vMv (.l 0))) k)))))
noncomputable def xbody13C (E : Env) (call : CallTT) : CZ := (zSeq (zSeq (zReg fun k => (zP (vFieldAddr 1 (.v 2))) ((zL 1 false (.l 0)) ((zP (vLenL (.l 0))) ((zP (vInt E fLss .lss 3 false false (.v 5) (.l 0))) k))))
 (zCond (.l 0) zSkip (zExit 2)))
 (zSeq (zBlock 3 (zSeq (zDreg 0 fun n0 k => (zPD (vFieldAddr 1 (.v 2))) ((zLD B6 1 1 false (.l 0)) ((zPD (vIndexAddr 3 (.l 0) (.v 5))) ((zLD B6 4 3 true (.l 0)) ((zPD (vFieldAddr 1 (.v 3))) ((zLD B6 6 1 false (.l 0)) ((zPD (vIndexAddr 3 (.l 0) (.v 5))) ((zLD B6 9 3 true (.l 0)) ((zPD (vInt E fNeq .neq 59 false false (.l 4) (.l 0))) k)))))))))
 (zCond (.l 0) (zSeq (zReg fun k => (zV 6 (vMv (.k (.bool false)))) k)
 zRet) zSkip)))
 (zReg fun k => (zP (vMv (.v 5))) ((zP (vInt E fAdd .add 3 false true (.l 0) (.k (.int .i64 1)))) ((zV 5 (vMv (.l 0))) k)))))
noncomputable def G13 (E : Env) : ZFn := ⟨59, [0, 1, 2, 3, 5, 6, 4], fun cy Y fuel =>
 (zSeq (zReg fun k => (zStep E (cy Y) ⟨.box 25 (.v 0), (.var 2), none, false, 0, (some 0)⟩) ((zStep E (cy Y) ⟨.box 25 (.v 1), (.var 3), none, false, 1, (some 1)⟩) ((zV 6 (vMv (.k (.bool false)))) k)))
 (zSeq (zSeq (zReg fun k => (zP (vFieldAddr 0 (.v 2))) ((zL 1 false (.l 0)) ((zP (vLenL (.l 0))) ((zP (vFieldAddr 0 (.v 3))) ((zL 1 false (.l 0)) ((zP (vLenL (.l 0))) ((zP (vInt E fNeq .neq 3 false false (.l 3) (.l 0))) ((zG (.l 0) false .push (zP (vFieldAddr 1 (.v 2)))) ((zG (.l 1) false .push (zL 1 false (.l 0))) ((zG (.l 2) false .push (zP (vLenL (.l 0)))) ((zG (.l 3) false .push (zP (vFieldAddr 1 (.v 3)))) ((zG (.l 4) false .push (zL 1 false (.l 0))) ((zG (.l 5) false .push (zP (vLenL (.l 0)))) ((zG (.l 6) false .push (zP (vInt E fNeq .neq 3 false false (.l 3) (.l 0)))) ((zP (vPick (.l 7) (.k (.bool true)) (.l 0))) k)))))))))))))))
 (zCond (.l 0) (zSeq (zReg fun k => (zV 6 (vMv (.k (.bool false)))) k)
 zRet) zSkip))
 (zSeq (zSeq (zReg fun k => (zV 4 (vMv (.k (.int .i64 0)))) k)
 (zBlock 0 (zLoop fuel (xbody13M E (cy Y)))))
 (zSeq (zSeq (zReg fun k => (zV 5 (vMv (.k (.int .i64 0)))) k)
 (zBlock 2 (zLoop fuel (xbody13C E (cy Y)))))
 (zSeq (zReg fun k => (zV 6 (vMv (.k (.bool true)))) k)
 zRet))))), [.tmp (.v 6)]⟩
theorem G13_ok (fn : Nat → Option Func) (pu : Nat → Bool) (pr : Nat → List AV → Option (Heap → Option (Eff × Acc))) : ZOk ⟨Try.tyT, fn, pu, pr⟩ npT F13 (G13 ⟨Try.tyT, fn, pu, pr⟩) := ⟨by kernel_rfl, by kernel_rfl, by kernel_rfl, fun cy Y k => by kernel_rfl⟩
noncomputable def F14 : FFn := cF LV 0 [0, 8, 7, 3, 4, 2] Try.f14
noncomputable def G14 (E : Env) : ZFn := ⟨20, [0, 8, 7, 3, 4, 2], fun cy Y fuel =>
 (zSeq (zReg fun k => (zStep E (cy Y) ⟨.alloc 25, (.var 5), none, false, 0, (some 0)⟩) k)
 (zSeq (zReg fun k => (zStep E (cy Y) ⟨.alloc 25, (.var 3), none, false, 0, (some 0)⟩) k)
 (zSeq (zSeq (zReg fun k => (zStep E (cy Y) ⟨.most true [(.v 0), (.k (.int .i64 1))], .push, none, false, 1, none⟩) ((zStep E (cy Y) ⟨.most false [(.l 0), (.k (.int .i64 4))], (.var 2), none, false, 2, none⟩) ((zV 1 (vMv (.k (.int .i64 0)))) k)))
 (zBlock 0 (zLoop fuel (zSeq (zReg fun k => (zP (vInt E fLss .lss 3 false false (.v 1) (.v 2))) k)
 (zSeq (zCond (.l 0) zSkip (zExit 0))
 (zSeq (zBlock 1 (zSeq (zReg fun k => (zV 4 (vMv (.v 1))) k)
 (zReg fun k => (zP (vFieldAddr 0 (.v 3))) ((zL 1 false (.l 0)) ((zStep E (cy Y) ⟨.build 55 [(0, (.v 4)), (1, (.k (.int .u64 1)))], .push, none, false, 3, none⟩) ((zStep E (cy Y) ⟨.buildSlice 22 1 [(0, (.l 0))], .push, none, false, 4, (some 0)⟩) ((zStep E (cy Y) ⟨.append 22 22 (.l 2) (.l 0), .push, none, false, 5, (some 1)⟩) ((zP (vFieldAddr 0 (.v 3))) ((zStep E (cy Y) ⟨.store 22 (.l 0) (.l 1), .none, none, false, 7, none⟩) k)))))))))
 (zReg fun k => (zP (vInt E fAdd .add 3 false true (.v 1) (.k (.int .i64 1)))) ((zV 1 (vMv (.l 0))) k))))))))
 (zSeq (zReg fun k => (zL 2 true (.v 3)) ((zStep E (cy Y) ⟨.store 25 (.v 5) (.l 0), .none, none, false, 1, none⟩) k))
 zRet)))), [.cell (.v 5) 25]⟩
theorem G14_ok (fn : Nat → Option Func) (pu : Nat → Bool) (pr : Nat → List AV → Option (Heap → Option (Eff × Acc))) : ZOk ⟨Try.tyT, fn, pu, pr⟩ npT F14 (G14 ⟨Try.tyT, fn, pu, pr⟩) := ⟨by kernel_rfl, by kernel_rfl, by kernel_rfl, fun cy Y k => by kernel_rfl⟩
noncomputable def F15 : FFn := cF LV 0 [4, 0, 3, 2] Try.f15
noncomputable def xbody15 (E : Env) (call : CallTT) : CZ := (zSeq (zSeq (zReg fun k => (zStep E call ⟨.most false [(.v 1), (.k (.int .i64 4))], .push, none, false, 2, none⟩) ((zStep E call ⟨.most true [(.k (.int .i64 1)), (.l 0)], .push, none, false, 3, none⟩) ((zP (vInt E fLss .lss 3 false false (.v 0) (.l 0))) k)))
 (zCond (.l 0) zSkip (zExit 0)))
 (zSeq (zBlock 1 (zReg fun k => (zP (vFieldAddr 0 (.v 2))) ((zL 1 false (.l 0)) ((zStep E call ⟨.build 55 [(0, (.v 0)), (1, (.k (.int .u64 1)))], .push, none, false, 3, none⟩) ((zStep E call ⟨.buildSlice 22 1 [(0, (.l 0))], .push, none, false, 4, (some 0)⟩) ((zStep E call ⟨.append 22 22 (.l 2) (.l 0), .push, none, false, 5, (some 1)⟩) ((zP (vFieldAddr 0 (.v 2))) ((zStep E call ⟨.store 22 (.l 0) (.l 1), .none, none, false, 7, none⟩) k))))))))
 (zReg fun k => (zP (vMv (.v 0))) ((zP (vInt E fAdd .add 3 false true (.l 0) (.k (.int .i64 1)))) ((zV 0 (vMv (.l 0))) k)))))
noncomputable def G15 (E : Env) : ZFn := ⟨21, [4, 0, 3, 2], fun cy Y fuel =>
 (zSeq (zReg fun k => (zStep E (cy Y) ⟨.alloc 25, (.var 3), none, false, 0, (some 0)⟩) k)
 (zSeq (zReg fun k => (zStep E (cy Y) ⟨.build 25 [], .push, none, false, 0, none⟩) ((zStep E (cy Y) ⟨.alloc 25, (.var 2), none, false, 1, (some 0)⟩) ((zStep E (cy Y) ⟨.store 25 (.v 2) (.l 0), .none, none, false, 2, none⟩) k)))
 (zSeq (zSeq (zReg fun k => (zV 0 (vMv (.k (.int .i64 0)))) k)
 (zBlock 0 (zLoop fuel (xbody15 E (cy Y)))))
 (zSeq (zReg fun k => (zL 2 true (.v 2)) ((zStep E (cy Y) ⟨.store 25 (.v 3) (.l 0), .none, none, false, 1, none⟩) k))
 zRet)))), [.cell (.v 3) 25]⟩
theorem G15_ok (fn : Nat → Option Func) (pu : Nat → Bool) (pr : Nat → List AV → Option (Heap → Option (Eff × Acc))) : ZOk ⟨Try.tyT, fn, pu, pr⟩ npT F15 (G15 ⟨Try.tyT, fn, pu, pr⟩) := ⟨by kernel_rfl, by kernel_rfl, by kernel_rfl, fun cy Y k => by kernel_rfl⟩
noncomputable def F16 : FFn := cF LV 0 [0, 3, 1, 4, 2] Try.f16
noncomputable def xbody16M (E : Env) (call : CallTT) : CZ := (zSeq (zSeq (zReg fun k => (zP (vFieldAddr 0 (.v 2))) ((zL 1 false (.l 0)) ((zP (vLenL (.l 0))) ((zP (vInt E fLss .lss 3 false false (.v 1) (.l 0))) k))))
 (zCond (.l 0) zSkip (zExit 0)))
 (zSeq (zBlock 1 (zSeq (zReg fun k => (zP (vFieldAddr 0 (.v 2))) ((zL 1 false (.l 0)) ((zP (vIndexAddr 2 (.l 0) (.v 1))) ((zP (vFieldAddr 1 (.l 0))) ((zL 1 false (.l 0)) ((zP (vInt E fAdd .add 40 false true (.l 0) (.k (.int .u64 1)))) ((zP (vInt E fEql .eql 40 false true (.l 0) (.k (.int .u64 0)))) k)))))))
 (zCond (.l 0) (zSeq (zReg fun k => (zV 4 (vMv (.k (.bool true)))) k)
 zRet) zSkip)))
 (zReg fun k => (zP (vMv (.v 1))) ((zP (vInt E fAdd .add 3 false true (.l 0) (.k (.int .i64 1)))) ((zV 1 (vMv (.l 0))) k)))))
noncomputable def xbody16C (E : Env) (call : CallTT) : CZ := (zSeq (zSeq (zReg fun k => (zP (vFieldAddr 1 (.v 2))) ((zL 1 false (.l 0)) ((zP (vLenL (.l 0))) ((zP (vInt E fLss .lss 3 false false (.v 3) (.l 0))) k))))
 (zCond (.l 0) zSkip (zExit 2)))
 (zSeq (zBlock 3 (zSeq (zReg fun k => (zP (vFieldAddr 1 (.v 2))) ((zL 1 false (.l 0)) ((zP (vIndexAddr 3 (.l 0) (.v 3))) ((zP (vFieldAddr 1 (.l 0))) ((zL 1 false (.l 0)) ((zP (vInt E fAdd .add 40 false true (.l 0) (.k (.int .u64 1)))) ((zP (vInt E fEql .eql 40 false true (.l 0) (.k (.int .u64 0)))) k)))))))
 (zCond (.l 0) (zSeq (zReg fun k => (zV 4 (vMv (.k (.bool true)))) k)
 zRet) zSkip)))
 (zReg fun k => (zP (vMv (.v 3))) ((zP (vInt E fAdd .add 3 false true (.l 0) (.k (.int .i64 1)))) ((zV 3 (vMv (.l 0))) k)))))
noncomputable def G16 (E : Env) : ZFn := ⟨35, [0, 3, 1, 4, 2], fun cy Y fuel =>
 (zSeq (zReg fun k => (zStep E (cy Y) ⟨.box 25 (.v 0), (.var 2), none, false, 0, (some 0)⟩) ((zV 4 (vMv (.k (.bool false)))) k))
 (zSeq (zSeq (zReg fun k => (zV 1 (vMv (.k (.int .i64 0)))) k)
 (zBlock 0 (zLoop fuel (xbody16M E (cy Y)))))
 (zSeq (zSeq (zReg fun k => (zV 3 (vMv (.k (.int .i64 0)))) k)
 (zBlock 2 (zLoop fuel (xbody16C E (cy Y)))))
 (zSeq (zReg fun k => (zV 4 (vMv (.k (.bool false)))) k)
 zRet)))), [.tmp (.v 4)]⟩
theorem G16_ok (fn : Nat → Option Func) (pu : Nat → Bool) (pr : Nat → List AV → Option (Heap → Option (Eff × Acc))) : ZOk ⟨Try.tyT, fn, pu, pr⟩ npT F16 (G16 ⟨Try.tyT, fn, pu, pr⟩) := ⟨by kernel_rfl, by kernel_rfl, by kernel_rfl, fun cy Y k => by kernel_rfl⟩
noncomputable def F17 : FFn := cF LV 0 [0, 1, 2, 3, 5, 4] Try.f17
noncomputable def G17 (E : Env) : ZFn := ⟨22, [0, 1, 2, 3, 5, 4], fun cy Y fuel =>
 (zSeq (zReg fun k => (zStep E (cy Y) ⟨.box 25 (.v 0), (.var 2), none, false, 0, (some 0)⟩) ((zStep E (cy Y) ⟨.box 25 (.v 1), (.var 3), none, false, 1, (some 1)⟩) ((zStep E (cy Y) ⟨.alloc 25, (.var 5), none, false, 2, (some 2)⟩) k)))
 (zSeq (zReg fun k => (zP (vFieldAddr 1 (.v 2))) ((zL 1 false (.l 0)) ((zP (vFieldAddr 1 (.v 3))) ((zL 1 false (.l 0)) ((zCall (cy Y) 49 [(.l 2), (.l 0), (.k (.clo 50 [])), (.k (.clo 51 []))] .push) ((zV 4 (vMv (.l 0))) k))))))
 (zSeq (zDreg 1 fun n0 k => (zPD (vFieldAddr 0 (.v 2))) ((zLD B7 1 1 false (.l 0)) ((zPD (vFieldAddr 0 (.v 3))) ((zLD B7 3 1 false (.l 0)) ((zCallD (cy Y) B7 4 54 [(.l 2), (.l 0), (.k (.clo 45 [])), (.k (.clo 55 []))] .push) ((zPD (vLenL (.v 4))) ((zStepD E (cy Y) B7 n0 ⟨.most false [(.l 0), (.k (.int .i64 40))], .push, none, false, 8, none⟩) ((zStepD E (cy Y) B7 n0 ⟨.slice 23 (.v 4) none (some (.l 0)) none, .push, none, false, 9, none⟩) ((zStepD E (cy Y) B7 n0 ⟨.build 25 [(0, (.l 3)), (1, (.l 0))], .push, none, false, 10, none⟩) ((zStepD E (cy Y) B7 n0 ⟨.store 25 (.v 5) (.l 0), .none, none, false, 11, none⟩) k))))))))))
 zRet))), [.cell (.v 5) 25]⟩
theorem G17_ok (fn : Nat → Option Func) (pu : Nat → Bool) (pr : Nat → List AV → Option (Heap → Option (Eff × Acc))) : ZOk ⟨Try.tyT, fn, pu, pr⟩ npT F17 (G17 ⟨Try.tyT, fn, pu, pr⟩) := ⟨by kernel_rfl, by kernel_rfl, by kernel_rfl, fun cy Y k => by kernel_rfl⟩
noncomputable def F18 : FFn := cF LV 0 [0, 1, 2, 6, 3, 5, 7, 4] Try.f18
noncomputable def xbody18M (E : Env) (call : CallTT) : CZ := (zSeq (zSeq (zReg fun k => (zP (vFieldAddr 0 (.v 4))) ((zL 1 false (.l 0)) ((zP (vLenL (.l 0))) ((zP (vInt E fLss .lss 3 false false (.v 3) (.l 0))) k))))
 (zCond (.l 0) zSkip (zExit 0)))
 (zSeq (zBlock 1 (zDreg 1 fun n0 k => (zPD (vFieldAddr 0 (.v 5))) ((zLD B9 1 1 false (.l 0)) ((zPD (vFieldAddr 0 (.v 4))) ((zLD B9 3 1 false (.l 0)) ((zPD (vIndexAddr 2 (.l 0) (.v 3))) ((zLD B9 6 2 true (.l 0)) ((zCallD call B9 7 56 [(.l 4), (.l 0)] .push) ((zPD (vFieldAddr 0 (.v 5))) ((zStepD E call B9 n0 ⟨.store 22 (.l 0) (.l 1), .none, none, false, 9, none⟩) k))))))))))
 (zReg fun k => (zP (vMv (.v 3))) ((zP (vInt E fAdd .add 3 false true (.l 0) (.k (.int .i64 1)))) ((zV 3 (vMv (.l 0))) k)))))
noncomputable def xbody18C (E : Env) (call : CallTT) : CZ := (zSeq (zSeq (zReg fun k => (zP (vFieldAddr 1 (.v 4))) ((zL 1 false (.l 0)) ((zP (vLenL (.l 0))) ((zP (vInt E fLss .lss 3 false false (.v 6) (.l 0))) k))))
 (zCond (.l 0) zSkip (zExit 2)))
 (zSeq (zBlock 3 (zDreg 1 fun n0 k => (zPD (vFieldAddr 1 (.v 5))) ((zLD B9 1 1 false (.l 0)) ((zPD (vFieldAddr 1 (.v 4))) ((zLD B9 3 1 false (.l 0)) ((zPD (vIndexAddr 3 (.l 0) (.v 6))) ((zLD B9 6 3 true (.l 0)) ((zCallD call B9 7 57 [(.l 4), (.l 0)] .push) ((zPD (vFieldAddr 1 (.v 5))) ((zStepD E call B9 n0 ⟨.store 23 (.l 0) (.l 1), .none, none, false, 9, none⟩) k))))))))))
 (zReg fun k => (zP (vMv (.v 6))) ((zP (vInt E fAdd .add 3 false true (.l 0) (.k (.int .i64 1)))) ((zV 6 (vMv (.l 0))) k)))))
noncomputable def G18 (E : Env) : ZFn := ⟨56, [0, 1, 2, 6, 3, 5, 7, 4], fun cy Y fuel =>
 (zSeq (zReg fun k => (zStep E (cy Y) ⟨.box 25 (.v 0), (.var 2), none, false, 0, (some 0)⟩) ((zStep E (cy Y) ⟨.box 25 (.v 1), (.var 4), none, false, 1, (some 1)⟩) ((zStep E (cy Y) ⟨.alloc 25, (.var 7), none, false, 2, (some 2)⟩) k)))
 (zSeq (zDreg 3 fun n0 k => (zPD (vFieldAddr 0 (.v 2))) ((zLD B8 1 1 false (.l 0)) ((zStepD E (cy Y) B8 n0 ⟨.append 22 22 (.k (.sl 0 [] true)) (.l 0), .push, none, false, 2, (some 0)⟩) ((zPD (vFieldAddr 1 (.v 2))) ((zLD B8 4 1 false (.l 0)) ((zStepD E (cy Y) B8 n0 ⟨.append 23 23 (.k (.sl 0 [] true)) (.l 0), .push, none, false, 5, (some 1)⟩) ((zStepD E (cy Y) B8 n0 ⟨.build 25 [(0, (.l 3)), (1, (.l 0))], .push, none, false, 6, none⟩) ((zStepD E (cy Y) B8 n0 ⟨.alloc 25, (.var 5), none, false, 7, (some 2)⟩) ((zStepD E (cy Y) B8 n0 ⟨.store 25 (.v 5) (.l 0), .none, none, false, 8, none⟩) k)))))))))
 (zSeq (zSeq (zReg fun k => (zV 3 (vMv (.k (.int .i64 0)))) k)
 (zBlock 0 (zLoop fuel (xbody18M E (cy Y)))))
 (zSeq (zSeq (zReg fun k => (zV 6 (vMv (.k (.int .i64 0)))) k)
 (zBlock 2 (zLoop fuel (xbody18C E (cy Y)))))
 (zSeq (zReg fun k => (zP (vFieldAddr 1 (.v 5))) ((zL 1 false (.l 0)) ((zP (vFieldAddr 1 (.v 5))) ((zL 1 false (.l 0)) ((zP (vLenL (.l 0))) ((zStep E (cy Y) ⟨.most false [(.l 0), (.k (.int .i64 40))], .push, none, false, 5, none⟩) ((zStep E (cy Y) ⟨.slice 23 (.l 4) none (some (.l 0)) none, .push, none, false, 6, none⟩) ((zP (vFieldAddr 1 (.v 5))) ((zStep E (cy Y) ⟨.store 23 (.l 0) (.l 1), .none, none, false, 8, none⟩) k)))))))))
 (zSeq (zReg fun k => (zL 2 true (.v 5)) ((zStep E (cy Y) ⟨.store 25 (.v 7) (.l 0), .none, none, false, 1, none⟩) k))
 zRet)))))), [.cell (.v 7) 25]⟩
theorem G18_ok (fn : Nat → Option Func) (pu : Nat → Bool) (pr : Nat → List AV → Option (Heap → Option (Eff × Acc))) : ZOk ⟨Try.tyT, fn, pu, pr⟩ npT F18 (G18 ⟨Try.tyT, fn, pu, pr⟩) := ⟨by kernel_rfl, by kernel_rfl, by kernel_rfl, fun cy Y k => by kernel_rfl⟩
noncomputable def F19 : FFn := cF LV 0 [0, 1, 5, 4] Try.f19
noncomputable def xbody19 (E : Env) (call : CallTT) : CZ := (zSeq (zSeq (zReg fun k => (zP (vLenL (.v 0))) ((zP (vInt E fLss .lss 3 false false (.v 2) (.l 0))) k))
 (zCond (.l 0) zSkip (zExit 0)))
 (zSeq (zBlock 1 (zSeq (zDreg 0 fun n0 k => (zPD (vIndexAddr 1 (.v 0) (.v 2))) ((zLD B10 3 1 false (.l 0)) ((zPD (vIndexAddr 1 (.v 1) (.v 2))) ((zLD B10 7 1 false (.l 0)) ((zPD (vInt E fNeq .neq 3 false false (.l 2) (.l 0))) k)))))
 (zCond (.l 0) (zSeq (zReg fun k => (zV 3 (vMv (.k (.bool false)))) k)
 zRet) zSkip)))
 (zReg fun k => (zP (vMv (.v 2))) ((zP (vInt E fAdd .add 3 false true (.l 0) (.k (.int .i64 1)))) ((zV 2 (vMv (.l 0))) k)))))
noncomputable def G19 (E : Env) : ZFn := ⟨26, [0, 1, 5, 4], fun cy Y fuel =>
 (zSeq (zReg fun k => (zV 3 (vMv (.k (.bool false)))) k)
 (zSeq (zSeq (zReg fun k => (zP (vLenL (.v 0))) ((zP (vLenL (.v 1))) ((zP (vInt E fNeq .neq 3 false false (.l 1) (.l 0))) k)))
 (zCond (.l 0) (zSeq (zReg fun k => (zV 3 (vMv (.k (.bool false)))) k)
 zRet) zSkip))
 (zSeq (zSeq (zReg fun k => (zV 2 (vMv (.k (.int .i64 0)))) k)
 (zBlock 0 (zLoop fuel (xbody19 E (cy Y)))))
 (zSeq (zReg fun k => (zV 3 (vMv (.k (.bool true)))) k)
 zRet)))), [.tmp (.v 3)]⟩
theorem G19_ok (fn : Nat → Option Func) (pu : Nat → Bool) (pr : Nat → List AV → Option (Heap → Option (Eff × Acc))) : ZOk ⟨Try.tyT, fn, pu, pr⟩ npT F19 (G19 ⟨Try.tyT, fn, pu, pr⟩) := ⟨by kernel_rfl, by kernel_rfl, by kernel_rfl, fun cy Y k => by kernel_rfl⟩
noncomputable def F20 : FFn := cF LV 0 [0, 1, 9, 8, 7, 5, 3, 2] Try.f20
noncomputable def xbody20 (E : Env) (call : CallTT) : CZ := (zSeq (zReg fun k => (zP (vInt E fLss .lss 3 false false (.v 2) (.v 3))) k)
 (zSeq (zCond (.l 0) zSkip (zExit 0))
 (zSeq (zBlock 1 (zSeq (zReg fun k => (zP (vIndexAddr 2 (.v 4) (.v 2))) ((zL 2 true (.l 0)) ((zStep E call ⟨.alloc 55, (.var 5), none, false, 2, (some 0)⟩) ((zStep E call ⟨.store 55 (.v 5) (.l 0), .none, none, false, 3, none⟩) k))))
 (zSeq (zReg fun k => (zP (vFieldAddr 1 (.v 5))) ((zL 1 false (.l 0)) ((zP (vInt E (fGen .rem) .rem 40 false true (.l 0) (.k (.int .u64 2)))) ((zP (vInt E fEql .eql 40 false true (.l 0) (.k (.int .u64 1)))) k))))
 (zCond (.l 0) (zReg fun k => (zP (vMv (.v 6))) ((zP (vFieldAddr 0 (.v 5))) ((zL 1 false (.l 0)) ((zStep E call ⟨.buildSlice 32 1 [(0, (.l 0))], .push, none, false, 3, (some 0)⟩) ((zStep E call ⟨.append 32 32 (.l 3) (.l 0), .push, none, false, 4, (some 1)⟩) ((zV 6 (vMv (.l 0))) k)))))) zSkip))))
 (zReg fun k => (zP (vInt E fAdd .add 3 false true (.v 2) (.k (.int .i64 1)))) ((zV 2 (vMv (.l 0))) k)))))
noncomputable def G20 (E : Env) : ZFn := ⟨24, [0, 1, 9, 8, 7, 5, 3, 2], fun cy Y fuel =>
 (zSeq (zReg fun k => (zStep E (cy Y) ⟨.box 25 (.v 0), (.var 1), none, false, 0, (some 0)⟩) ((zV 7 (vMv (.k (.sl 0 [] true)))) k))
 (zSeq (zReg fun k => (zV 6 (vMv (.k (.sl 0 [] true)))) k)
 (zSeq (zSeq (zReg fun k => (zP (vFieldAddr 0 (.v 1))) ((zDstW (.var 4) (wLoad 1 false (.l 0))) ((zV 3 (vLenL (.v 4))) ((zV 2 (vMv (.k (.int .i64 0)))) k))))
 (zBlock 0 (zLoop fuel (xbody20 E (cy Y)))))
 (zSeq (zReg fun k => (zV 7 (vMv (.v 6))) k)
 zRet)))), [.tmp (.v 7)]⟩
theorem G20_ok (fn : Nat → Option Func) (pu : Nat → Bool) (pr : Nat → List AV → Option (Heap → Option (Eff × Acc))) : ZOk ⟨Try.tyT, fn, pu, pr⟩ npT F20 (G20 ⟨Try.tyT, fn, pu, pr⟩) := ⟨by kernel_rfl, by kernel_rfl, by kernel_rfl, fun cy Y k => by kernel_rfl⟩
noncomputable def F21 : FFn := cF LV 0 [0, 4, 1, 3, 2] Try.f21
noncomputable def xbody21 (E : Env) (call : CallTT) : CZ := (zSeq (zSeq (zReg fun k => (zP (vFieldAddr 0 (.v 2))) ((zL 1 false (.l 0)) ((zP (vLenL (.l 0))) ((zP (vInt E fLss .lss 3 false false (.v 1) (.l 0))) k))))
 (zCond (.l 0) zSkip (zExit 0)))
 (zSeq (zBlock 1 (zSeq (zReg fun k => (zP (vFieldAddr 0 (.v 2))) ((zL 1 false (.l 0)) ((zP (vIndexAddr 2 (.l 0) (.v 1))) ((zP (vFieldAddr 1 (.l 0))) ((zL 1 false (.l 0)) ((zP (vInt E (fGen .rem) .rem 40 false true (.l 0) (.k (.int .u64 2)))) ((zP (vInt E fEql .eql 40 false true (.l 0) (.k (.int .u64 1)))) k)))))))
 (zCond (.l 0) (zReg fun k => (zP (vMv (.v 3))) ((zP (vFieldAddr 0 (.v 2))) ((zL 1 false (.l 0)) ((zP (vIndexAddr 2 (.l 0) (.v 1))) ((zP (vFieldAddr 0 (.l 0))) ((zL 1 false (.l 0)) ((zStep E call ⟨.buildSlice 32 1 [(0, (.l 0))], .push, none, false, 7, (some 0)⟩) ((zStep E call ⟨.append 32 32 (.l 6) (.l 0), .push, none, false, 8, (some 1)⟩) ((zV 3 (vMv (.l 0))) k))))))))) zSkip)))
 (zReg fun k => (zP (vMv (.v 1))) ((zP (vInt E fAdd .add 3 false true (.l 0) (.k (.int .i64 1)))) ((zV 1 (vMv (.l 0))) k)))))
noncomputable def G21 (E : Env) : ZFn := ⟨30, [0, 4, 1, 3, 2], fun cy Y fuel =>
 (zSeq (zReg fun k => (zStep E (cy Y) ⟨.box 25 (.v 0), (.var 2), none, false, 0, (some 0)⟩) ((zV 4 (vMv (.k (.sl 0 [] true)))) k))
 (zSeq (zReg fun k => (zV 3 (vMv (.k (.sl 0 [] true)))) k)
 (zSeq (zSeq (zReg fun k => (zV 1 (vMv (.k (.int .i64 0)))) k)
 (zBlock 0 (zLoop fuel (xbody21 E (cy Y)))))
 (zSeq (zReg fun k => (zV 4 (vMv (.v 3))) k)
 zRet)))), [.tmp (.v 4)]⟩
theorem G21_ok (fn : Nat → Option Func) (pu : Nat → Bool) (pr : Nat → List AV → Option (Heap → Option (Eff × Acc))) : ZOk ⟨Try.tyT, fn, pu, pr⟩ npT F21 (G21 ⟨Try.tyT, fn, pu, pr⟩) := ⟨by kernel_rfl, by kernel_rfl, by kernel_rfl, fun cy Y k => by kernel_rfl⟩
noncomputable def F22 : FFn := cF LV 0 [0, 1, 2, 4, 5] Try.f22
noncomputable def G22 (E : Env) : ZFn := ⟨24, [0, 1, 2, 4, 5], fun cy Y fuel =>
 (zSeq (zReg fun k => (zStep E (cy Y) ⟨.box 25 (.v 0), (.var 2), none, false, 0, (some 0)⟩) ((zStep E (cy Y) ⟨.alloc 25, (.var 3), none, false, 1, (some 1)⟩) k))
 (zSeq (zSeq (zReg fun k => (zP (vInt E fLss .lss 3 false true (.v 1) (.k (.int .i64 0)))) ((zG (.l 0) false .push (zP (vMv (.v 1)))) ((zG (.l 1) false .push (zP (vInt E (fGen .geq) .geq 3 false true (.l 0) (.k (.int .i64 4))))) ((zP (vPick (.l 2) (.k (.bool true)) (.l 0))) k))))
 (zCond (.l 0) (zSeq (zReg fun k => (zL 2 true (.v 2)) ((zStep E (cy Y) ⟨.store 25 (.v 3) (.l 0), .none, none, false, 1, none⟩) k))
 zRet) zSkip))
 (zSeq (zReg fun k => (zV 4 (vMv (.k (.clo 58 [])))) k)
 (zSeq (zDreg 3 fun n0 k => (zPD (vFieldAddr 0 (.v 2))) ((zLD B11 1 1 false (.l 0)) ((zStepD E (cy Y) B11 n0 ⟨.build 55 [(0, (.v 1)), (1, (.k (.int .u64 1)))], .push, none, false, 3, none⟩) ((zStepD E (cy Y) B11 n0 ⟨.buildSlice 22 1 [(0, (.l 0))], .push, none, false, 4, (some 0)⟩) ((zCallD (cy Y) B11 6 54 [(.l 2), (.l 0), (.k (.clo 45 [])), (.v 4)] .push) ((zPD (vFieldAddr 1 (.v 2))) ((zLD B11 8 1 false (.l 0)) ((zStepD E (cy Y) B11 n0 ⟨.call 59 [(.l 0)], .push, none, false, 9, (some 2)⟩) ((zStepD E (cy Y) B11 n0 ⟨.build 25 [(0, (.l 3)), (1, (.l 0))], .push, none, false, 10, none⟩) ((zStepD E (cy Y) B11 n0 ⟨.store 25 (.v 3) (.l 0), .none, none, false, 11, none⟩) k))))))))))
 zRet)))), [.cell (.v 3) 25]⟩
theorem G22_ok (fn : Nat → Option Func) (pu : Nat → Bool) (pr : Nat → List AV → Option (Heap → Option (Eff × Acc))) : ZOk ⟨Try.tyT, fn, pu, pr⟩ npT F22 (G22 ⟨Try.tyT, fn, pu, pr⟩) := ⟨by kernel_rfl, by kernel_rfl, by kernel_rfl, fun cy Y k => by kernel_rfl⟩
noncomputable def F23 : FFn := cF LV 0 [0, 1, 2, 4, 6, 5] Try.f23
noncomputable def xbody23 (E : Env) (call : CallTT) : CZ := (zSeq (zSeq (zReg fun k => (zP (vFieldAddr 0 (.v 2))) ((zL 1 false (.l 0)) ((zP (vLenL (.l 0))) ((zP (vInt E fLss .lss 3 false false (.v 4) (.l 0))) k))))
 (zCond (.l 0) zSkip (zExit 0)))
 (zSeq (zBlock 1 (zSeq (zReg fun k => (zP (vFieldAddr 0 (.v 2))) ((zL 1 false (.l 0)) ((zP (vIndexAddr 2 (.l 0) (.v 4))) ((zP (vFieldAddr 0 (.l 0))) ((zL 1 false (.l 0)) ((zP (vInt E fEql .eql 3 false false (.l 0) (.v 1))) k))))))
 (zCond (.l 0) (zReg fun k => (zP (vFieldAddr 0 (.v 2))) ((zL 1 false (.l 0)) ((zP (vIndexAddr 2 (.l 0) (.v 4))) ((zP (vFieldAddr 1 (.l 0))) ((zL 1 false (.l 0)) ((zV 5 (vMv (.l 0))) k)))))) zSkip)))
 (zReg fun k => (zP (vMv (.v 4))) ((zP (vInt E fAdd .add 3 false true (.l 0) (.k (.int .i64 1)))) ((zV 4 (vMv (.l 0))) k)))))
noncomputable def G23 (E : Env) : ZFn := ⟨45, [0, 1, 2, 4, 6, 5], fun cy Y fuel =>
 (zSeq (zReg fun k => (zStep E (cy Y) ⟨.box 25 (.v 0), (.var 2), none, false, 0, (some 0)⟩) ((zStep E (cy Y) ⟨.alloc 25, (.var 3), none, false, 1, (some 1)⟩) k))
 (zSeq (zSeq (zReg fun k => (zP (vInt E fLss .lss 3 false true (.v 1) (.k (.int .i64 0)))) ((zG (.l 0) false .push (zP (vMv (.v 1)))) ((zG (.l 1) false .push (zP (vInt E (fGen .geq) .geq 3 false true (.l 0) (.k (.int .i64 4))))) ((zP (vPick (.l 2) (.k (.bool true)) (.l 0))) k))))
 (zCond (.l 0) (zSeq (zReg fun k => (zL 2 true (.v 2)) ((zStep E (cy Y) ⟨.store 25 (.v 3) (.l 0), .none, none, false, 1, none⟩) k))
 zRet) zSkip))
 (zSeq (zReg fun k => (zV 5 (vMv (.k (.int .u64 0)))) k)
 (zSeq (zSeq (zReg fun k => (zV 4 (vMv (.k (.int .i64 0)))) k)
 (zBlock 0 (zLoop fuel (xbody23 E (cy Y)))))
 (zSeq (zDreg 1 fun n0 k => (zPD (vFieldAddr 0 (.v 2))) ((zLD B12 1 1 false (.l 0)) ((zPD (vInt E fAdd .add 40 false true (.v 5) (.k (.int .u64 1)))) ((zStepD E (cy Y) B12 n0 ⟨.build 55 [(0, (.v 1)), (1, (.l 0))], .push, none, false, 5, none⟩) ((zCallD (cy Y) B12 6 56 [(.l 2), (.l 0)] .push) ((zPD (vFieldAddr 1 (.v 2))) ((zLD B12 8 1 false (.l 0)) ((zStepD E (cy Y) B12 n0 ⟨.build 25 [(0, (.l 2)), (1, (.l 0))], .push, none, false, 9, none⟩) ((zStepD E (cy Y) B12 n0 ⟨.store 25 (.v 3) (.l 0), .none, none, false, 10, none⟩) k)))))))))
 zRet))))), [.cell (.v 3) 25]⟩
theorem G23_ok (fn : Nat → Option Func) (pu : Nat → Bool) (pr : Nat → List AV → Option (Heap → Option (Eff × Acc))) : ZOk ⟨Try.tyT, fn, pu, pr⟩ npT F23 (G23 ⟨Try.tyT, fn, pu, pr⟩) := ⟨by kernel_rfl, by kernel_rfl, by kernel_rfl, fun cy Y k => by kernel_rfl⟩
noncomputable def F24 : FFn := cF LV 0 [0, 2, 1, 6, 5, 4] Try.f24
noncomputable def G24 (E : Env) : ZFn := ⟨18, [0, 2, 1, 6, 5, 4], fun cy Y fuel =>
 (zSeq (zReg fun k => (zStep E (cy Y) ⟨.box 25 (.v 0), (.var 1), none, false, 0, (some 0)⟩) ((zV 5 (vMv (.k (.int .i64 0)))) k))
 (zSeq (zReg fun k => (zL 2 true (.v 1)) ((zCall (cy Y) 60 [(.l 0), (.v 2)] .push) ((zP (vExtract 0 (.l 0))) ((zP (vExtract 1 (.l 1))) ((zStep E (cy Y) ⟨.alloc 59, (.var 4), none, false, 6, (some 1)⟩) ((zStep E (cy Y) ⟨.store 59 (.v 4) (.l 1), .none, none, false, 7, none⟩) ((zV 3 (vMv (.l 0))) k)))))))
 (zSeq (zSeq (zReg fun k => (zP (vNot (.v 3))) k)
 (zCond (.l 0) (zSeq (zReg fun k => (zV 5 (vMv (.k (.int .i64 2)))) k)
 zRet) zSkip))
 (zSeq (zReg fun k => (zP (vFieldAddr 2 (.v 4))) ((zL 1 false (.l 0)) ((zP (vConv .i64 (.l 0))) ((zV 5 (vMv (.l 0))) k))))
 zRet)))), [.tmp (.v 5)]⟩
theorem G24_ok (fn : Nat → Option Func) (pu : Nat → Bool) (pr : Nat → List AV → Option (Heap → Option (Eff × Acc))) : ZOk ⟨Try.tyT, fn, pu, pr⟩ npT F24 (G24 ⟨Try.tyT, fn, pu, pr⟩) := ⟨by kernel_rfl, by kernel_rfl, by kernel_rfl, fun cy Y k => by kernel_rfl⟩
noncomputable def F25 : FFn := cF LV 0 [0, 5, 2, 1, 4] Try.f25
noncomputable def xbody25 (E : Env) (call : CallTT) : CZ := (zSeq (zSeq (zReg fun k => (zP (vFieldAddr 1 (.v 2))) ((zL 1 false (.l 0)) ((zP (vLenL (.l 0))) ((zP (vInt E fLss .lss 3 false false (.v 1) (.l 0))) k))))
 (zCond (.l 0) zSkip (zExit 0)))
 (zSeq (zBlock 1 (zSeq (zReg fun k => (zP (vFieldAddr 1 (.v 2))) ((zL 1 false (.l 0)) ((zP (vIndexAddr 3 (.l 0) (.v 1))) ((zP (vFieldAddr 0 (.l 0))) ((zL 1 false (.l 0)) ((zP (vInt E fEql .eql 9 false false (.l 0) (.v 3))) k))))))
 (zCond (.l 0) (zSeq (zReg fun k => (zP (vFieldAddr 1 (.v 2))) ((zL 1 false (.l 0)) ((zP (vIndexAddr 3 (.l 0) (.v 1))) ((zP (vFieldAddr 2 (.l 0))) ((zL 1 false (.l 0)) ((zP (vConv .i64 (.l 0))) ((zV 4 (vMv (.l 0))) k)))))))
 zRet) zSkip)))
 (zReg fun k => (zP (vMv (.v 1))) ((zP (vInt E fAdd .add 3 false true (.l 0) (.k (.int .i64 1)))) ((zV 1 (vMv (.l 0))) k)))))
noncomputable def G25 (E : Env) : ZFn := ⟨28, [0, 5, 2, 1, 4], fun cy Y fuel =>
 (zSeq (zReg fun k => (zStep E (cy Y) ⟨.box 25 (.v 0), (.var 2), none, false, 0, (some 0)⟩) ((zV 4 (vMv (.k (.int .i64 0)))) k))
 (zSeq (zSeq (zReg fun k => (zV 1 (vMv (.k (.int .i64 0)))) k)
 (zBlock 0 (zLoop fuel (xbody25 E (cy Y)))))
 (zSeq (zReg fun k => (zV 4 (vMv (.k (.int .i64 2)))) k)
 zRet))), [.tmp (.v 4)]⟩
theorem G25_ok (fn : Nat → Option Func) (pu : Nat → Bool) (pr : Nat → List AV → Option (Heap → Option (Eff × Acc))) : ZOk ⟨Try.tyT, fn, pu, pr⟩ npT F25 (G25 ⟨Try.tyT, fn, pu, pr⟩) := ⟨by kernel_rfl, by kernel_rfl, by kernel_rfl, fun cy Y k => by kernel_rfl⟩
noncomputable def F26 : FFn := cF LV 0 [0, 3, 1, 8, 6, 7, 2, 9] Try.f26
noncomputable def G26 (E : Env) : ZFn := ⟨52, [0, 3, 1, 8, 6, 7, 2, 9], fun cy Y fuel =>
 (zSeq (zReg fun k => (zStep E (cy Y) ⟨.box 25 (.v 0), (.var 1), none, false, 0, (some 0)⟩) ((zStep E (cy Y) ⟨.alloc 25, (.var 4), none, false, 1, (some 1)⟩) k))
 (zSeq (zReg fun k => (zL 2 true (.v 1)) ((zCall (cy Y) 60 [(.l 0), (.v 2)] .push) ((zP (vExtract 0 (.l 0))) ((zP (vExtract 1 (.l 1))) ((zStep E (cy Y) ⟨.alloc 59, (.var 5), none, false, 6, (some 1)⟩) ((zStep E (cy Y) ⟨.store 59 (.v 5) (.l 1), .none, none, false, 7, none⟩) ((zV 3 (vMv (.l 0))) k)))))))
 (zSeq (zSeq (zReg fun k => (zP (vInt E fEql .eql 9 false true (.v 2) (.k (.str [])))) ((zG (.l 0) false .push (zP (vMv (.v 2)))) ((zG (.l 1) false .push (zP (vLenS (.l 0)))) ((zG (.l 2) false .push (zP (vInt E fGtr .gtr 3 false true (.l 0) (.k (.int .i64 8))))) ((zP (vPick (.l 3) (.k (.bool true)) (.l 0))) ((zG (.l 0) false .push (zP (vMv (.v 3)))) ((zG (.l 1) false .push (zP (vNot (.l 0)))) ((zG (.l 2) false .push (zP (vMv (.l 0)))) ((zG (.l 0) true .push (zP (vFieldAddr 1 (.v 1)))) ((zG (.l 1) true .push (zL 1 false (.l 0))) ((zG (.l 2) true .push (zP (vLenL (.l 0)))) ((zG (.l 3) true .push (zP (vInt E (fGen .geq) .geq 3 false true (.l 0) (.k (.int .i64 40))))) ((zG (.l 7) false .push (zP (vPick (.l 4) (.l 0) (.k (.bool false))))) ((zP (vPick (.l 8) (.k (.bool true)) (.l 0))) k))))))))))))))
 (zCond (.l 0) (zSeq (zReg fun k => (zL 2 true (.v 1)) ((zStep E (cy Y) ⟨.store 25 (.v 4) (.l 0), .none, none, false, 1, none⟩) k))
 zRet) zSkip))
 (zSeq (zReg fun k => (zP (vFieldAddr 1 (.v 5))) ((zL 1 false (.l 0)) ((zP (vInt E fAdd .add 40 false true (.l 0) (.k (.int .u64 1)))) ((zStep E (cy Y) ⟨.most true [(.v 6), (.k (.int .i64 1))], .push, none, false, 5, none⟩) ((zStep E (cy Y) ⟨.most false [(.l 0), (.k (.int .i64 3))], .push, none, false, 6, none⟩) ((zP (vConv .u64 (.l 0))) ((zStep E (cy Y) ⟨.build 59 [(0, (.v 2)), (1, (.l 3)), (2, (.l 0))], .push, none, false, 8, none⟩) ((zStep E (cy Y) ⟨.alloc 59, (.var 7), none, false, 9, (some 0)⟩) ((zStep E (cy Y) ⟨.store 59 (.v 7) (.l 0), .none, none, false, 10, none⟩) k)))))))))
 (zSeq (zDreg 3 fun n0 k => (zPD (vFieldAddr 0 (.v 1))) ((zLD B13 1 1 false (.l 0)) ((zStepD E (cy Y) B13 n0 ⟨.call 61 [(.l 0)], .push, none, false, 2, (some 0)⟩) ((zPD (vFieldAddr 1 (.v 1))) ((zLD B13 4 1 false (.l 0)) ((zLD B13 5 3 true (.v 7)) ((zStepD E (cy Y) B13 n0 ⟨.buildSlice 23 1 [(0, (.l 0))], .push, none, false, 6, (some 1)⟩) ((zCallD (cy Y) B13 7 49 [(.l 2), (.l 0), (.k (.clo 50 [])), (.k (.clo 62 []))] .push) ((zStepD E (cy Y) B13 n0 ⟨.build 25 [(0, (.l 5)), (1, (.l 0))], .push, none, false, 8, none⟩) ((zStepD E (cy Y) B13 n0 ⟨.store 25 (.v 4) (.l 0), .none, none, false, 9, none⟩) k))))))))))
 zRet))))), [.cell (.v 4) 25]⟩
theorem G26_ok (fn : Nat → Option Func) (pu : Nat → Bool) (pr : Nat → List AV → Option (Heap → Option (Eff × Acc))) : ZOk ⟨Try.tyT, fn, pu, pr⟩ npT F26 (G26 ⟨Try.tyT, fn, pu, pr⟩) := ⟨by kernel_rfl, by kernel_rfl, by kernel_rfl, fun cy Y k => by kernel_rfl⟩
noncomputable def F27 : FFn := cF LV 0 [0, 8, 3, 1, 7, 6, 2] Try.f27
noncomputable def xbody27 (E : Env) (call : CallTT) : CZ := (zSeq (zSeq (zReg fun k => (zP (vFieldAddr 1 (.v 2))) ((zL 1 false (.l 0)) ((zP (vLenL (.l 0))) ((zP (vInt E fLss .lss 3 false false (.v 1) (.l 0))) k))))
 (zCond (.l 0) zSkip (zExit 0)))
 (zSeq (zBlock 1 (zSeq (zReg fun k => (zP (vFieldAddr 1 (.v 2))) ((zL 1 false (.l 0)) ((zP (vIndexAddr 3 (.l 0) (.v 1))) ((zP (vFieldAddr 0 (.l 0))) ((zL 1 false (.l 0)) ((zP (vInt E fEql .eql 9 false false (.l 0) (.v 3))) k))))))
 (zCond (.l 0) (zReg fun k => (zP (vFieldAddr 1 (.v 2))) ((zL 1 false (.l 0)) ((zP (vIndexAddr 3 (.l 0) (.v 1))) ((zP (vFieldAddr 1 (.l 0))) ((zL 1 false (.l 0)) ((zV 4 (vMv (.l 0))) k)))))) zSkip)))
 (zReg fun k => (zP (vMv (.v 1))) ((zP (vInt E fAdd .add 3 false true (.l 0) (.k (.int .i64 1)))) ((zV 1 (vMv (.l 0))) k)))))
noncomputable def G27 (E : Env) : ZFn := ⟨63, [0, 8, 3, 1, 7, 6, 2], fun cy Y fuel =>
 (zSeq (zReg fun k => (zStep E (cy Y) ⟨.box 25 (.v 0), (.var 2), none, false, 0, (some 0)⟩) ((zStep E (cy Y) ⟨.alloc 25, (.var 5), none, false, 1, (some 1)⟩) k))
 (zSeq (zReg fun k => (zV 4 (vMv (.k (.int .u64 0)))) k)
 (zSeq (zSeq (zReg fun k => (zV 1 (vMv (.k (.int .i64 0)))) k)
 (zBlock 0 (zLoop fuel (xbody27 E (cy Y)))))
 (zSeq (zSeq (zReg fun k => (zP (vLenS (.v 3))) ((zP (vInt E fLss .lss 3 false true (.l 0) (.k (.int .i64 1)))) ((zG (.l 0) false .push (zP (vMv (.v 3)))) ((zG (.l 1) false .push (zP (vLenS (.l 0)))) ((zG (.l 2) false .push (zP (vInt E fGtr .gtr 3 false true (.l 0) (.k (.int .i64 8))))) ((zP (vPick (.l 3) (.k (.bool true)) (.l 0))) ((zG (.l 0) false .push (zP (vMv (.v 4)))) ((zG (.l 1) false .push (zP (vInt E fEql .eql 40 false true (.l 0) (.k (.int .u64 0))))) ((zG (.l 2) false .push (zP (vMv (.l 0)))) ((zG (.l 0) true .push (zP (vFieldAddr 1 (.v 2)))) ((zG (.l 1) true .push (zL 1 false (.l 0))) ((zG (.l 2) true .push (zP (vLenL (.l 0)))) ((zG (.l 3) true .push (zP (vInt E (fGen .geq) .geq 3 false true (.l 0) (.k (.int .i64 40))))) ((zG (.l 7) false .push (zP (vPick (.l 4) (.l 0) (.k (.bool false))))) ((zP (vPick (.l 8) (.k (.bool true)) (.l 0))) k)))))))))))))))
 (zCond (.l 0) (zSeq (zReg fun k => (zL 2 true (.v 2)) ((zStep E (cy Y) ⟨.store 25 (.v 5) (.l 0), .none, none, false, 1, none⟩) k))
 zRet) zSkip))
 (zSeq (zDreg 1 fun n0 k => (zPD (vFieldAddr 0 (.v 2))) ((zLD B14 1 1 false (.l 0)) ((zPD (vFieldAddr 1 (.v 2))) ((zLD B14 3 1 false (.l 0)) ((zPD (vInt E fAdd .add 40 false true (.v 4) (.k (.int .u64 1)))) ((zStepD E (cy Y) B14 n0 ⟨.most false [(.v 6), (.k (.int .i64 3))], .push, none, false, 8, none⟩) ((zStepD E (cy Y) B14 n0 ⟨.most true [(.k (.int .i64 1)), (.l 0)], .push, none, false, 9, none⟩) ((zPD (vConv .u64 (.l 0))) ((zStepD E (cy Y) B14 n0 ⟨.build 59 [(0, (.v 3)), (1, (.l 3)), (2, (.l 0))], .push, none, false, 11, none⟩) ((zCallD (cy Y) B14 12 57 [(.l 5), (.l 0)] .push) ((zStepD E (cy Y) B14 n0 ⟨.build 25 [(0, (.l 8)), (1, (.l 0))], .push, none, false, 13, none⟩) ((zStepD E (cy Y) B14 n0 ⟨.store 25 (.v 5) (.l 0), .none, none, false, 14, none⟩) k))))))))))))
 zRet))))), [.cell (.v 5) 25]⟩
theorem G27_ok (fn : Nat → Option Func) (pu : Nat → Bool) (pr : Nat → List AV → Option (Heap → Option (Eff × Acc))) : ZOk ⟨Try.tyT, fn, pu, pr⟩ npT F27 (G27 ⟨Try.tyT, fn, pu, pr⟩) := ⟨by kernel_rfl, by kernel_rfl, by kernel_rfl, fun cy Y k => by kernel_rfl⟩
noncomputable def F45 : FFn := cF LV 0 [0, 1, 2, 3, 4] Try.f45
noncomputable def G45 (E : Env) : ZFn := ⟨10, [0, 1, 2, 3, 4], fun cy Y fuel =>
 (zSeq (zReg fun k => (zStep E (cy Y) ⟨.box 55 (.v 0), (.var 2), none, false, 0, (some 0)⟩) ((zStep E (cy Y) ⟨.box 55 (.v 1), (.var 3), none, false, 1, (some 1)⟩) ((zV 4 (vMv (.k (.int .i64 0)))) k)))
 (zSeq (zReg fun k => (zP (vFieldAddr 0 (.v 2))) ((zL 1 false (.l 0)) ((zP (vFieldAddr 0 (.v 3))) ((zL 1 false (.l 0)) ((zCall (cy Y) 73 [(.l 2), (.l 0)] .push) ((zV 4 (vMv (.l 0))) k))))))
 zRet)), [.tmp (.v 4)]⟩
theorem G45_ok (fn : Nat → Option Func) (pu : Nat → Bool) (pr : Nat → List AV → Option (Heap → Option (Eff × Acc))) : ZOk ⟨Try.tyT, fn, pu, pr⟩ npT F45 (G45 ⟨Try.tyT, fn, pu, pr⟩) := ⟨by kernel_rfl, by kernel_rfl, by kernel_rfl, fun cy Y k => by kernel_rfl⟩
noncomputable def F46 : FFn := cF LV 0 [0, 2] Try.f46
noncomputable def G46 (E : Env) : ZFn := ⟨12, [0, 2], fun cy Y fuel =>
 (zSeq (zReg fun k => (zStep E (cy Y) ⟨.alloc 4, (.var 1), none, false, 0, (some 0)⟩) k)
 (zSeq (zSeq (zReg fun k => (zCall (cy Y) 74 [(.v 0)] .push) k)
 (zBlock 0 (zRange cy Y (.l 0) 0 [none, none, none, none, (some (.v 1))] [none, none, (some (.v 1)), none, none, none, none, none, none, none, none, none] [7, 8] (codeAt [1, 0, 1, 0, 0] (bodyOf Try.f46)) (codeAt [1, 0, 1, 0, 1] (bodyOf Try.f46)))))
 (zSeq (zReg fun k => (zStep E (cy Y) ⟨.store 4 (.v 1) (.k (.bool true)), .none, none, false, 0, none⟩) k)
 zRet))), [.cell (.v 1) 4]⟩
theorem G46_ok (fn : Nat → Option Func) (pu : Nat → Bool) (pr : Nat → List AV → Option (Heap → Option (Eff × Acc))) : ZOk ⟨Try.tyT, fn, pu, pr⟩ npT F46 (G46 ⟨Try.tyT, fn, pu, pr⟩) := ⟨by kernel_rfl, by kernel_rfl, by kernel_rfl, fun cy Y k => by kernel_rfl⟩
noncomputable def F47 : FFn := cF LV 0 [0, 1, 13, 12, 5, 4] Try.f47
noncomputable def xbody47 (E : Env) (call : CallTT) : CZ := (zSeq (zReg fun k => (zP (vInt E fLss .lss 3 false false (.v 2) (.v 3))) k)
 (zSeq (zCond (.l 0) zSkip (zExit 0))
 (zSeq (zBlock 1 (zSeq (zReg fun k => (zV 4 (vMv (.v 2))) k)
 (zSeq (zDreg 0 fun n0 k => (zPD (vIndexAddr 2 (.v 0) (.v 4))) ((zLD B10 3 2 true (.l 0)) ((zPD (vIndexAddr 2 (.v 1) (.v 4))) ((zLD B10 7 2 true (.l 0)) ((zPD (vInt E fNeq .neq 55 false false (.l 2) (.l 0))) k)))))
 (zCond (.l 0) (zSeq (zReg fun k => (zV 5 (vMv (.k (.bool false)))) k)
 zRet) zSkip))))
 (zReg fun k => (zP (vInt E fAdd .add 3 false true (.v 2) (.k (.int .i64 1)))) ((zV 2 (vMv (.l 0))) k)))))
noncomputable def G47 (E : Env) : ZFn := ⟨26, [0, 1, 13, 12, 5, 4], fun cy Y fuel =>
 (zSeq (zReg fun k => (zV 5 (vMv (.k (.bool false)))) k)
 (zSeq (zSeq (zReg fun k => (zP (vLenL (.v 0))) ((zP (vLenL (.v 1))) ((zP (vInt E fNeq .neq 3 false false (.l 1) (.l 0))) k)))
 (zCond (.l 0) (zSeq (zReg fun k => (zV 5 (vMv (.k (.bool false)))) k)
 zRet) zSkip))
 (zSeq (zSeq (zReg fun k => (zV 3 (vLenL (.v 0))) ((zV 2 (vMv (.k (.int .i64 0)))) k))
 (zBlock 0 (zLoop fuel (xbody47 E (cy Y)))))
 (zSeq (zReg fun k => (zV 5 (vMv (.k (.bool true)))) k)
 zRet)))), [.tmp (.v 5)]⟩
theorem G47_ok (fn : Nat → Option Func) (pu : Nat → Bool) (pr : Nat → List AV → Option (Heap → Option (Eff × Acc))) : ZOk ⟨Try.tyT, fn, pu, pr⟩ npT F47 (G47 ⟨Try.tyT, fn, pu, pr⟩) := ⟨by kernel_rfl, by kernel_rfl, by kernel_rfl, fun cy Y k => by kernel_rfl⟩
noncomputable def F48 : FFn := cF LV 0 [0, 1, 13, 12, 5, 4] Try.f48
noncomputable def xbody48 (E : Env) (call : CallTT) : CZ := (zSeq (zReg fun k => (zP (vInt E fLss .lss 3 false false (.v 2) (.v 3))) k)
 (zSeq (zCond (.l 0) zSkip (zExit 0))
 (zSeq (zBlock 1 (zSeq (zReg fun k => (zV 4 (vMv (.v 2))) k)
 (zSeq (zDreg 0 fun n0 k => (zPD (vIndexAddr 3 (.v 0) (.v 4))) ((zLD B10 3 3 true (.l 0)) ((zPD (vIndexAddr 3 (.v 1) (.v 4))) ((zLD B10 7 3 true (.l 0)) ((zPD (vInt E fNeq .neq 59 false false (.l 2) (.l 0))) k)))))
 (zCond (.l 0) (zSeq (zReg fun k => (zV 5 (vMv (.k (.bool false)))) k)
 zRet) zSkip))))
 (zReg fun k => (zP (vInt E fAdd .add 3 false true (.v 2) (.k (.int .i64 1)))) ((zV 2 (vMv (.l 0))) k)))))
noncomputable def G48 (E : Env) : ZFn := ⟨26, [0, 1, 13, 12, 5, 4], fun cy Y fuel =>
 (zSeq (zReg fun k => (zV 5 (vMv (.k (.bool false)))) k)
 (zSeq (zSeq (zReg fun k => (zP (vLenL (.v 0))) ((zP (vLenL (.v 1))) ((zP (vInt E fNeq .neq 3 false false (.l 1) (.l 0))) k)))
 (zCond (.l 0) (zSeq (zReg fun k => (zV 5 (vMv (.k (.bool false)))) k)
 zRet) zSkip))
 (zSeq (zSeq (zReg fun k => (zV 3 (vLenL (.v 0))) ((zV 2 (vMv (.k (.int .i64 0)))) k))
 (zBlock 0 (zLoop fuel (xbody48 E (cy Y)))))
 (zSeq (zReg fun k => (zV 5 (vMv (.k (.bool true)))) k)
 zRet)))), [.tmp (.v 5)]⟩
theorem G48_ok (fn : Nat → Option Func) (pu : Nat → Bool) (pr : Nat → List AV → Option (Heap → Option (Eff × Acc))) : ZOk ⟨Try.tyT, fn, pu, pr⟩ npT F48 (G48 ⟨Try.tyT, fn, pu, pr⟩) := ⟨by kernel_rfl, by kernel_rfl, by kernel_rfl, fun cy Y k => by kernel_rfl⟩
noncomputable def F49 : FFn := cF LV 0 [0, 1, 18, 17, 16, 9, 11, 2, 13, 12, 3, 8] Try.f49
noncomputable def G49 (E : Env) : ZFn := ⟨47, [0, 1, 18, 17, 16, 9, 11, 2, 13, 12, 3, 8], fun cy Y fuel =>
 (zSeq (zReg fun k => (zV 11 (vMv (.k (.sl 0 [] true)))) k)
 (zSeq (zReg fun k => (zStep E (cy Y) ⟨.call 59 [(.v 0)], .push, none, false, 1, (some 0)⟩) ((zV 5 (vMv (.l 0))) k))
 (zSeq (zSeq (zReg fun k => (zV 4 (vMv (.v 1))) ((zV 3 (vLenL (.v 4))) ((zV 2 (vMv (.k (.int .i64 0)))) k)))
 (zBlock 0 (zLoop fuel (zSeq (zReg fun k => (zP (vInt E fLss .lss 3 false false (.v 2) (.v 3))) k)
 (zSeq (zCond (.l 0) zSkip (zExit 0))
 (zSeq (zBlock 1 (zSeq (zReg fun k => (zP (vIndexAddr 3 (.v 4) (.v 2))) ((zL 3 true (.l 0)) ((zStep E (cy Y) ⟨.alloc 59, (.var 6), none, false, 2, (some 0)⟩) ((zStep E (cy Y) ⟨.store 59 (.v 6) (.l 0), .none, none, false, 3, none⟩) k))))
 (zSeq (zReg fun k => (zL 3 true (.v 6)) ((zCall (cy Y) 75 [(.v 5), (.l 0), (.v 7)] .push) ((zP (vExtract 0 (.l 0))) ((zP (vExtract 1 (.l 1))) ((zV 9 (vMv (.l 1))) ((zV 8 (vMv (.l 0))) k))))))
 (zSeq (zReg fun k => k)
 (zCond (.v 8) (zDreg 1 fun n0 k => (zPD (vIndexAddr 3 (.v 5) (.v 9))) ((zLD B15 6 3 true (.l 0)) ((zLD B15 7 3 true (.v 6)) ((zStepD E (cy Y) B15 n0 ⟨.callv (.v 10) [(.l 1), (.l 0)], .push, none, false, 8, (some 0)⟩) ((zPD (vIndexAddr 3 (.v 5) (.v 9))) ((zStepD E (cy Y) B15 n0 ⟨.store 59 (.l 0) (.l 1), .none, none, false, 10, none⟩) k)))))) (zReg fun k => (zP (vMv (.v 5))) ((zL 3 true (.v 6)) ((zStep E (cy Y) ⟨.buildSlice 23 1 [(0, (.l 0))], .push, none, false, 3, (some 0)⟩) ((zStep E (cy Y) ⟨.call 76 [(.l 2), (.v 9), (.l 0)], .push, none, false, 4, (some 1)⟩) ((zV 5 (vMv (.l 0))) k))))))))))
 (zReg fun k => (zP (vInt E fAdd .add 3 false true (.v 2) (.k (.int .i64 1)))) ((zV 2 (vMv (.l 0))) k))))))))
 (zSeq (zReg fun k => (zV 11 (vMv (.v 5))) k)
 zRet)))), [.tmp (.v 11)]⟩
theorem G49_ok (fn : Nat → Option Func) (pu : Nat → Bool) (pr : Nat → List AV → Option (Heap → Option (Eff × Acc))) : ZOk ⟨Try.tyT, fn, pu, pr⟩ npT F49 (G49 ⟨Try.tyT, fn, pu, pr⟩) := ⟨by kernel_rfl, by kernel_rfl, by kernel_rfl, fun cy Y k => by kernel_rfl⟩
noncomputable def F50 : FFn := cF LV 0 [0, 1, 2, 3, 4] Try.f50
noncomputable def G50 (E : Env) : ZFn := ⟨10, [0, 1, 2, 3, 4], fun cy Y fuel =>
 (zSeq (zReg fun k => (zStep E (cy Y) ⟨.box 59 (.v 0), (.var 2), none, false, 0, (some 0)⟩) ((zStep E (cy Y) ⟨.box 59 (.v 1), (.var 3), none, false, 1, (some 1)⟩) ((zV 4 (vMv (.k (.int .i64 0)))) k)))
 (zSeq (zReg fun k => (zP (vFieldAddr 0 (.v 2))) ((zL 1 false (.l 0)) ((zP (vFieldAddr 0 (.v 3))) ((zL 1 false (.l 0)) ((zCall (cy Y) 77 [(.l 2), (.l 0)] .push) ((zV 4 (vMv (.l 0))) k))))))
 zRet)), [.tmp (.v 4)]⟩
theorem G50_ok (fn : Nat → Option Func) (pu : Nat → Bool) (pr : Nat → List AV → Option (Heap → Option (Eff × Acc))) : ZOk ⟨Try.tyT, fn, pu, pr⟩ npT F50 (G50 ⟨Try.tyT, fn, pu, pr⟩) := ⟨by kernel_rfl, by kernel_rfl, by kernel_rfl, fun cy Y k => by kernel_rfl⟩
noncomputable def F51 : FFn := cF LV 0 [0, 1, 2, 3, 4] Try.f51
noncomputable def G51 (E : Env) : ZFn := ⟨20, [0, 1, 2, 3, 4], fun cy Y fuel =>
 (zSeq (zReg fun k => (zStep E (cy Y) ⟨.box 59 (.v 0), (.var 2), none, false, 0, (some 0)⟩) ((zStep E (cy Y) ⟨.box 59 (.v 1), (.var 3), none, false, 1, (some 1)⟩) ((zStep E (cy Y) ⟨.alloc 59, (.var 4), none, false, 2, (some 2)⟩) k)))
 (zSeq (zSeq (zDreg 4 fun n0 k => (zPD (vFieldAddr 1 (.v 2))) ((zLD B16 1 1 false (.l 0)) ((zPD (vFieldAddr 1 (.v 3))) ((zLD B16 3 1 false (.l 0)) ((zCallD (cy Y) B16 4 53 [(.l 2), (.l 0)] .push) ((zPD (vFieldAddr 2 (.v 2))) ((zLD B16 6 1 false (.l 0)) ((zPD (vFieldAddr 2 (.v 3))) ((zLD B16 8 1 false (.l 0)) ((zCallD (cy Y) B16 9 53 [(.l 2), (.l 0)] .push) ((zStepD E (cy Y) B16 n0 ⟨.buildSlice 32 2 [(0, (.l 5)), (1, (.l 0))], .push, none, false, 10, (some 2)⟩) ((zCallD (cy Y) B16 11 52 [(.l 0)] .push) ((zPD (vInt E fLss .lss 3 false true (.l 0) (.k (.int .i64 0)))) k)))))))))))))
 (zCond (.l 0) (zSeq (zReg fun k => (zL 3 true (.v 3)) ((zStep E (cy Y) ⟨.store 59 (.v 4) (.l 0), .none, none, false, 1, none⟩) k))
 zRet) zSkip))
 (zSeq (zReg fun k => (zL 3 true (.v 2)) ((zStep E (cy Y) ⟨.store 59 (.v 4) (.l 0), .none, none, false, 1, none⟩) k))
 zRet))), [.cell (.v 4) 59]⟩
theorem G51_ok (fn : Nat → Option Func) (pu : Nat → Bool) (pr : Nat → List AV → Option (Heap → Option (Eff × Acc))) : ZOk ⟨Try.tyT, fn, pu, pr⟩ npT F51 (G51 ⟨Try.tyT, fn, pu, pr⟩) := ⟨by kernel_rfl, by kernel_rfl, by kernel_rfl, fun cy Y k => by kernel_rfl⟩
noncomputable def F52 : FFn := cF LV 0 [0, 8, 7, 6, 5, 3, 2] Try.f52
noncomputable def G52 (E : Env) : ZFn := ⟨18, [0, 8, 7, 6, 5, 3, 2], fun cy Y fuel =>
 (zSeq (zReg fun k => (zV 6 (vMv (.k (.int .i64 0)))) k)
 (zSeq (zReg fun k => (zV 5 (vMv (.k (.int .i64 0)))) k)
 (zSeq (zSeq (zReg fun k => (zV 3 (vMv (.v 0))) ((zV 2 (vLenL (.v 3))) ((zV 1 (vMv (.k (.int .i64 0)))) k)))
 (zBlock 0 (zLoop fuel (zSeq (zReg fun k => (zP (vInt E fLss .lss 3 false false (.v 1) (.v 2))) k)
 (zSeq (zCond (.l 0) zSkip (zExit 0))
 (zSeq (zBlock 1 (zSeq (zReg fun k => (zP (vIndexAddr 1 (.v 3) (.v 1))) ((zL 1 false (.l 0)) ((zV 4 (vMv (.l 0))) k)))
 (zSeq (zReg fun k => (zP (vInt E fNeq .neq 3 false false (.v 4) (.v 5))) k)
 (zCond (.l 0) (zSeq (zReg fun k => (zV 6 (vMv (.v 4))) k)
 zRet) zSkip))))
 (zReg fun k => (zP (vInt E fAdd .add 3 false true (.v 1) (.k (.int .i64 1)))) ((zV 1 (vMv (.l 0))) k))))))))
 (zSeq (zReg fun k => (zV 6 (vMv (.v 5))) k)
 zRet)))), [.tmp (.v 6)]⟩
theorem G52_ok (fn : Nat → Option Func) (pu : Nat → Bool) (pr : Nat → List AV → Option (Heap → Option (Eff × Acc))) : ZOk ⟨Try.tyT, fn, pu, pr⟩ npT F52 (G52 ⟨Try.tyT, fn, pu, pr⟩) := ⟨by kernel_rfl, by kernel_rfl, by kernel_rfl, fun cy Y k => by kernel_rfl⟩
noncomputable def F53 : FFn := cF LV 0 [0, 1, 5, 6, 4] Try.f53
noncomputable def G53 (E : Env) : ZFn := ⟨20, [0, 1, 5, 6, 4], fun cy Y fuel =>
 (zSeq (zReg fun k => (zV 4 (vMv (.k (.int .i64 0)))) k)
 (zSeq (zReg fun k => (zCall (cy Y) 78 [(.v 0)] .push) ((zV 2 (vMv (.l 0))) k))
 (zSeq (zReg fun k => (zCall (cy Y) 78 [(.v 1)] .push) ((zV 3 (vMv (.l 0))) k))
 (zSeq (zSeq (zReg fun k => k)
 (zCond (.v 2) (zSeq (zSeq (zReg fun k => k)
 (zCond (.v 3) (zSeq (zReg fun k => (zV 4 (vMv (.k (.int .i64 0)))) k)
 zRet) zSkip))
 (zSeq (zReg fun k => (zV 4 (vMv (.k (.int .i64 (-1))))) k)
 zRet)) zSkip))
 (zSeq (zSeq (zReg fun k => k)
 (zCond (.v 3) (zSeq (zReg fun k => (zV 4 (vMv (.k (.int .i64 1)))) k)
 zRet) zSkip))
 (zSeq (zSeq (zReg fun k => (zP (vInt E fLss .lss 40 false false (.v 0) (.v 1))) k)
 (zCond (.l 0) (zSeq (zReg fun k => (zV 4 (vMv (.k (.int .i64 (-1))))) k)
 zRet) zSkip))
 (zSeq (zSeq (zReg fun k => (zP (vInt E fGtr .gtr 40 false false (.v 0) (.v 1))) k)
 (zCond (.l 0) (zSeq (zReg fun k => (zV 4 (vMv (.k (.int .i64 1)))) k)
 zRet) zSkip))
 (zSeq (zReg fun k => (zV 4 (vMv (.k (.int .i64 0)))) k)
 zRet)))))))), [.tmp (.v 4)]⟩
theorem G53_ok (fn : Nat → Option Func) (pu : Nat → Bool) (pr : Nat → List AV → Option (Heap → Option (Eff × Acc))) : ZOk ⟨Try.tyT, fn, pu, pr⟩ npT F53 (G53 ⟨Try.tyT, fn, pu, pr⟩) := ⟨by kernel_rfl, by kernel_rfl, by kernel_rfl, fun cy Y k => by kernel_rfl⟩
noncomputable def F54 : FFn := cF LV 0 [0, 1, 18, 17, 16, 9, 11, 2, 13, 12, 3, 8] Try.f54
noncomputable def G54 (E : Env) : ZFn := ⟨47, [0, 1, 18, 17, 16, 9, 11, 2, 13, 12, 3, 8], fun cy Y fuel =>
 (zSeq (zReg fun k => (zV 11 (vMv (.k (.sl 0 [] true)))) k)
 (zSeq (zReg fun k => (zStep E (cy Y) ⟨.call 61 [(.v 0)], .push, none, false, 1, (some 0)⟩) ((zV 5 (vMv (.l 0))) k))
 (zSeq (zSeq (zReg fun k => (zV 4 (vMv (.v 1))) ((zV 3 (vLenL (.v 4))) ((zV 2 (vMv (.k (.int .i64 0)))) k)))
 (zBlock 0 (zLoop fuel (zSeq (zReg fun k => (zP (vInt E fLss .lss 3 false false (.v 2) (.v 3))) k)
 (zSeq (zCond (.l 0) zSkip (zExit 0))
 (zSeq (zBlock 1 (zSeq (zReg fun k => (zP (vIndexAddr 2 (.v 4) (.v 2))) ((zL 2 true (.l 0)) ((zStep E (cy Y) ⟨.alloc 55, (.var 6), none, false, 2, (some 0)⟩) ((zStep E (cy Y) ⟨.store 55 (.v 6) (.l 0), .none, none, false, 3, none⟩) k))))
 (zSeq (zReg fun k => (zL 2 true (.v 6)) ((zCall (cy Y) 79 [(.v 5), (.l 0), (.v 7)] .push) ((zP (vExtract 0 (.l 0))) ((zP (vExtract 1 (.l 1))) ((zV 9 (vMv (.l 1))) ((zV 8 (vMv (.l 0))) k))))))
 (zSeq (zReg fun k => k)
 (zCond (.v 8) (zDreg 1 fun n0 k => (zPD (vIndexAddr 2 (.v 5) (.v 9))) ((zLD B15 6 2 true (.l 0)) ((zLD B15 7 2 true (.v 6)) ((zStepD E (cy Y) B15 n0 ⟨.callv (.v 10) [(.l 1), (.l 0)], .push, none, false, 8, (some 0)⟩) ((zPD (vIndexAddr 2 (.v 5) (.v 9))) ((zStepD E (cy Y) B15 n0 ⟨.store 55 (.l 0) (.l 1), .none, none, false, 10, none⟩) k)))))) (zReg fun k => (zP (vMv (.v 5))) ((zL 2 true (.v 6)) ((zStep E (cy Y) ⟨.buildSlice 22 1 [(0, (.l 0))], .push, none, false, 3, (some 0)⟩) ((zStep E (cy Y) ⟨.call 80 [(.l 2), (.v 9), (.l 0)], .push, none, false, 4, (some 1)⟩) ((zV 5 (vMv (.l 0))) k))))))))))
 (zReg fun k => (zP (vInt E fAdd .add 3 false true (.v 2) (.k (.int .i64 1)))) ((zV 2 (vMv (.l 0))) k))))))))
 (zSeq (zReg fun k => (zV 11 (vMv (.v 5))) k)
 zRet)))), [.tmp (.v 11)]⟩
theorem G54_ok (fn : Nat → Option Func) (pu : Nat → Bool) (pr : Nat → List AV → Option (Heap → Option (Eff × Acc))) : ZOk ⟨Try.tyT, fn, pu, pr⟩ npT F54 (G54 ⟨Try.tyT, fn, pu, pr⟩) := ⟨by kernel_rfl, by kernel_rfl, by kernel_rfl, fun cy Y k => by kernel_rfl⟩
noncomputable def F55 : FFn := cF LV 0 [0, 1, 2, 3, 4] Try.f55
noncomputable def G55 (E : Env) : ZFn := ⟨13, [0, 1, 2, 3, 4], fun cy Y fuel =>
 (zSeq (zReg fun k => (zStep E (cy Y) ⟨.box 55 (.v 0), (.var 2), none, false, 0, (some 0)⟩) ((zStep E (cy Y) ⟨.box 55 (.v 1), (.var 3), none, false, 1, (some 1)⟩) ((zStep E (cy Y) ⟨.alloc 55, (.var 4), none, false, 2, (some 2)⟩) k)))
 (zSeq (zReg fun k => (zP (vFieldAddr 0 (.v 2))) ((zL 1 false (.l 0)) ((zP (vFieldAddr 1 (.v 2))) ((zL 1 false (.l 0)) ((zP (vFieldAddr 1 (.v 3))) ((zL 1 false (.l 0)) ((zStep E (cy Y) ⟨.most true [(.l 2), (.l 0)], .push, none, false, 6, none⟩) ((zStep E (cy Y) ⟨.build 55 [(0, (.l 5)), (1, (.l 0))], .push, none, false, 7, none⟩) ((zStep E (cy Y) ⟨.store 55 (.v 4) (.l 0), .none, none, false, 8, none⟩) k)))))))))
 zRet)), [.cell (.v 4) 55]⟩
theorem G55_ok (fn : Nat → Option Func) (pu : Nat → Bool) (pr : Nat → List AV → Option (Heap → Option (Eff × Acc))) : ZOk ⟨Try.tyT, fn, pu, pr⟩ npT F55 (G55 ⟨Try.tyT, fn, pu, pr⟩) := ⟨by kernel_rfl, by kernel_rfl, by kernel_rfl, fun cy Y k => by kernel_rfl⟩
noncomputable def F56 : FFn := cF LV 0 [1, 5, 0, 3, 6, 4] Try.f56
noncomputable def xbody56 (E : Env) (call : CallTT) : CZ := (zSeq (zSeq (zReg fun k => (zP (vLenL (.v 2))) ((zP (vInt E fLss .lss 3 false false (.v 1) (.l 0))) k))
 (zCond (.l 0) zSkip (zExit 0)))
 (zSeq (zBlock 1 (zSeq (zSeq (zDreg 0 fun n0 k => (zPD (vIndexAddr 2 (.v 2) (.v 1))) ((zPD (vFieldAddr 0 (.l 0))) ((zLD B17 4 1 false (.l 0)) ((zPD (vFieldAddr 0 (.v 3))) ((zLD B17 6 1 false (.l 0)) ((zPD (vInt E fEql .eql 3 false false (.l 2) (.l 0))) k))))))
 (zCond (.l 0) (zSeq (zReg fun k => (zStep E call ⟨.append 22 22 (.k (.sl 0 [] true)) (.v 2), .push, none, false, 1, (some 0)⟩) ((zV 4 (vMv (.l 0))) k))
 (zSeq (zDreg 0 fun n0 k => (zPD (vIndexAddr 2 (.v 2) (.v 1))) ((zPD (vFieldAddr 1 (.l 0))) ((zLD B18 6 1 false (.l 0)) ((zPD (vFieldAddr 1 (.v 3))) ((zLD B18 8 1 false (.l 0)) ((zStepD E call B18 n0 ⟨.most true [(.l 2), (.l 0)], .push, none, false, 9, none⟩) ((zPD (vIndexAddr 2 (.v 4) (.v 1))) ((zPD (vFieldAddr 1 (.l 0))) ((zStepD E call B18 n0 ⟨.store 40 (.l 0) (.l 2), .none, none, false, 12, none⟩) k)))))))))
 (zSeq (zReg fun k => (zV 5 (vMv (.v 4))) k)
 zRet))) zSkip))
 (zSeq (zDreg 0 fun n0 k => (zPD (vIndexAddr 2 (.v 2) (.v 1))) ((zPD (vFieldAddr 0 (.l 0))) ((zLD B17 4 1 false (.l 0)) ((zPD (vFieldAddr 0 (.v 3))) ((zLD B17 6 1 false (.l 0)) ((zPD (vInt E fGtr .gtr 3 false false (.l 2) (.l 0))) k))))))
 (zCond (.l 0) (zSeq (zDreg 4 fun n0 k => (zStepD E call B19 n0 ⟨.slice 22 (.v 2) none (some (.v 1)) none, .push, none, false, 2, none⟩) ((zStepD E call B19 n0 ⟨.append 22 22 (.k (.sl 0 [] true)) (.l 0), .push, none, false, 3, (some 0)⟩) ((zLD B19 4 2 true (.v 3)) ((zStepD E call B19 n0 ⟨.buildSlice 22 1 [(0, (.l 0))], .push, none, false, 5, (some 1)⟩) ((zStepD E call B19 n0 ⟨.append 22 22 (.l 2) (.l 0), .push, none, false, 6, (some 2)⟩) ((zStepD E call B19 n0 ⟨.slice 22 (.v 2) (some (.v 1)) none none, .push, none, false, 9, none⟩) ((zStepD E call B19 n0 ⟨.append 22 22 (.l 1) (.l 0), .push, none, false, 10, (some 3)⟩) ((zVD 5 (vMv (.l 0))) k))))))))
 zRet) zSkip))))
 (zReg fun k => (zP (vMv (.v 1))) ((zP (vInt E fAdd .add 3 false true (.l 0) (.k (.int .i64 1)))) ((zV 1 (vMv (.l 0))) k)))))
noncomputable def xtail56 (E : Env) (call : CallTT) : CZ := (zSeq (zDreg 3 fun n0 k => (zStepD E call B20 n0 ⟨.append 22 22 (.k (.sl 0 [] true)) (.v 2), .push, none, false, 1, (some 0)⟩) ((zLD B20 2 2 true (.v 3)) ((zStepD E call B20 n0 ⟨.buildSlice 22 1 [(0, (.l 0))], .push, none, false, 3, (some 1)⟩) ((zStepD E call B20 n0 ⟨.append 22 22 (.l 2) (.l 0), .push, none, false, 4, (some 2)⟩) ((zVD 5 (vMv (.l 0))) k)))))
 zRet)
noncomputable def G56 (E : Env) : ZFn := ⟨60, [1, 5, 0, 3, 6, 4], fun cy Y fuel =>
 (zSeq (zReg fun k => (zStep E (cy Y) ⟨.box 55 (.v 0), (.var 3), none, false, 0, (some 0)⟩) ((zV 5 (vMv (.k (.sl 0 [] true)))) k))
 (zSeq (zSeq (zReg fun k => (zV 1 (vMv (.k (.int .i64 0)))) k)
 (zBlock 0 (zLoop fuel (xbody56 E (cy Y)))))
 (xtail56 E (cy Y)))), [.tmp (.v 5)]⟩
theorem G56_ok (fn : Nat → Option Func) (pu : Nat → Bool) (pr : Nat → List AV → Option (Heap → Option (Eff × Acc))) : ZOk ⟨Try.tyT, fn, pu, pr⟩ npT F56 (G56 ⟨Try.tyT, fn, pu, pr⟩) := ⟨by kernel_rfl, by kernel_rfl, by kernel_rfl, fun cy Y k => by kernel_rfl⟩
noncomputable def F57 : FFn := cF LV 0 [1, 5, 0, 3, 6, 4] Try.f57
noncomputable def xbody57 (E : Env) (call : CallTT) : CZ := (zSeq (zSeq (zReg fun k => (zP (vLenL (.v 2))) ((zP (vInt E fLss .lss 3 false false (.v 1) (.l 0))) k))
 (zCond (.l 0) zSkip (zExit 0)))
 (zSeq (zBlock 1 (zSeq (zSeq (zDreg 0 fun n0 k => (zPD (vIndexAddr 3 (.v 2) (.v 1))) ((zPD (vFieldAddr 0 (.l 0))) ((zLD B17 4 1 false (.l 0)) ((zPD (vFieldAddr 0 (.v 3))) ((zLD B17 6 1 false (.l 0)) ((zPD (vInt E fEql .eql 9 false false (.l 2) (.l 0))) k))))))
 (zCond (.l 0) (zSeq (zReg fun k => (zStep E call ⟨.append 23 23 (.k (.sl 0 [] true)) (.v 2), .push, none, false, 1, (some 0)⟩) ((zV 4 (vMv (.l 0))) k))
 (zSeq (zSeq (zDreg 0 fun n0 k => (zPD (vFieldAddr 1 (.v 3))) ((zLD B21 1 1 false (.l 0)) ((zPD (vIndexAddr 3 (.v 2) (.v 1))) ((zPD (vFieldAddr 1 (.l 0))) ((zLD B21 6 1 false (.l 0)) ((zPD (vInt E fGtr .gtr 40 false false (.l 3) (.l 0))) ((zGD (.l 0) false .push (zPD (vFieldAddr 1 (.v 3)))) ((zGD (.l 1) false .push (zLD B21 10 1 false (.l 0))) ((zGD (.l 2) false .push (zPD (vMv (.v 2)))) ((zGD (.l 3) false .push (zPD (vMv (.v 1)))) ((zGD (.l 4) false .push (zPD (vIndexAddr 3 (.l 1) (.l 0)))) ((zGD (.l 5) false .push (zPD (vFieldAddr 1 (.l 0)))) ((zGD (.l 6) false .push (zLD B21 15 1 false (.l 0))) ((zGD (.l 7) false .push (zPD (vInt E fEql .eql 40 false false (.l 5) (.l 0)))) ((zGD (.l 8) false .push (zPD (vMv (.l 0)))) ((zGD (.l 0) true .push (zPD (vFieldAddr 2 (.v 3)))) ((zGD (.l 1) true .push (zLD B21 19 1 false (.l 0))) ((zGD (.l 2) true .push (zPD (vMv (.v 2)))) ((zGD (.l 3) true .push (zPD (vMv (.v 1)))) ((zGD (.l 4) true .push (zPD (vIndexAddr 3 (.l 1) (.l 0)))) ((zGD (.l 5) true .push (zPD (vFieldAddr 2 (.l 0)))) ((zGD (.l 6) true .push (zLD B21 24 1 false (.l 0))) ((zGD (.l 7) true .push (zPD (vInt E fGtr .gtr 40 false false (.l 5) (.l 0)))) ((zGD (.l 17) false .push (zPD (vPick (.l 8) (.l 0) (.k (.bool false))))) ((zPD (vPick (.l 18) (.k (.bool true)) (.l 0))) k)))))))))))))))))))))))))
 (zCond (.l 0) (zReg fun k => (zL 3 true (.v 3)) ((zP (vIndexAddr 3 (.v 4) (.v 1))) ((zStep E call ⟨.store 59 (.l 0) (.l 1), .none, none, false, 4, none⟩) k))) zSkip))
 (zSeq (zReg fun k => (zV 5 (vMv (.v 4))) k)
 zRet))) zSkip))
 (zSeq (zDreg 0 fun n0 k => (zPD (vIndexAddr 3 (.v 2) (.v 1))) ((zPD (vFieldAddr 0 (.l 0))) ((zLD B17 4 1 false (.l 0)) ((zPD (vFieldAddr 0 (.v 3))) ((zLD B17 6 1 false (.l 0)) ((zPD (vInt E fGtr .gtr 9 false false (.l 2) (.l 0))) k))))))
 (zCond (.l 0) (zSeq (zDreg 4 fun n0 k => (zStepD E call B19 n0 ⟨.slice 23 (.v 2) none (some (.v 1)) none, .push, none, false, 2, none⟩) ((zStepD E call B19 n0 ⟨.append 23 23 (.k (.sl 0 [] true)) (.l 0), .push, none, false, 3, (some 0)⟩) ((zLD B19 4 3 true (.v 3)) ((zStepD E call B19 n0 ⟨.buildSlice 23 1 [(0, (.l 0))], .push, none, false, 5, (some 1)⟩) ((zStepD E call B19 n0 ⟨.append 23 23 (.l 2) (.l 0), .push, none, false, 6, (some 2)⟩) ((zStepD E call B19 n0 ⟨.slice 23 (.v 2) (some (.v 1)) none none, .push, none, false, 9, none⟩) ((zStepD E call B19 n0 ⟨.append 23 23 (.l 1) (.l 0), .push, none, false, 10, (some 3)⟩) ((zVD 5 (vMv (.l 0))) k))))))))
 zRet) zSkip))))
 (zReg fun k => (zP (vMv (.v 1))) ((zP (vInt E fAdd .add 3 false true (.l 0) (.k (.int .i64 1)))) ((zV 1 (vMv (.l 0))) k)))))
noncomputable def xtail57 (E : Env) (call : CallTT) : CZ := (zSeq (zDreg 3 fun n0 k => (zStepD E call B20 n0 ⟨.append 23 23 (.k (.sl 0 [] true)) (.v 2), .push, none, false, 1, (some 0)⟩) ((zLD B20 2 3 true (.v 3)) ((zStepD E call B20 n0 ⟨.buildSlice 23 1 [(0, (.l 0))], .push, none, false, 3, (some 1)⟩) ((zStepD E call B20 n0 ⟨.append 23 23 (.l 2) (.l 0), .push, none, false, 4, (some 2)⟩) ((zVD 5 (vMv (.l 0))) k)))))
 zRet)
noncomputable def G57 (E : Env) : ZFn := ⟨80, [1, 5, 0, 3, 6, 4], fun cy Y fuel =>
 (zSeq (zReg fun k => (zStep E (cy Y) ⟨.box 59 (.v 0), (.var 3), none, false, 0, (some 0)⟩) ((zV 5 (vMv (.k (.sl 0 [] true)))) k))
 (zSeq (zSeq (zReg fun k => (zV 1 (vMv (.k (.int .i64 0)))) k)
 (zBlock 0 (zLoop fuel (xbody57 E (cy Y)))))
 (xtail57 E (cy Y)))), [.tmp (.v 5)]⟩
theorem G57_ok (fn : Nat → Option Func) (pu : Nat → Bool) (pr : Nat → List AV → Option (Heap → Option (Eff × Acc))) : ZOk ⟨Try.tyT, fn, pu, pr⟩ npT F57 (G57 ⟨Try.tyT, fn, pu, pr⟩) := ⟨by kernel_rfl, by kernel_rfl, by kernel_rfl, fun cy Y k => by kernel_rfl⟩
noncomputable def F58 : FFn := cF LV 0 [0, 1, 2, 4] Try.f58
noncomputable def G58 (E : Env) : ZFn := ⟨11, [0, 1, 2, 4], fun cy Y fuel =>
 (zSeq (zReg fun k => (zStep E (cy Y) ⟨.box 55 (.v 0), (.var 2), none, false, 0, (some 0)⟩) ((zStep E (cy Y) ⟨.box 55 (.v 1), .push, none, false, 1, (some 1)⟩) ((zStep E (cy Y) ⟨.alloc 55, (.var 3), none, false, 2, (some 2)⟩) k)))
 (zSeq (zReg fun k => (zP (vFieldAddr 0 (.v 2))) ((zL 1 false (.l 0)) ((zP (vFieldAddr 1 (.v 2))) ((zL 1 false (.l 0)) ((zP (vInt E fAdd .add 40 false true (.l 0) (.k (.int .u64 1)))) ((zStep E (cy Y) ⟨.build 55 [(0, (.l 3)), (1, (.l 0))], .push, none, false, 5, none⟩) ((zStep E (cy Y) ⟨.store 55 (.v 3) (.l 0), .none, none, false, 6, none⟩) k)))))))
 zRet)), [.cell (.v 3) 55]⟩
theorem G58_ok (fn : Nat → Option Func) (pu : Nat → Bool) (pr : Nat → List AV → Option (Heap → Option (Eff × Acc))) : ZOk ⟨Try.tyT, fn, pu, pr⟩ npT F58 (G58 ⟨Try.tyT, fn, pu, pr⟩) := ⟨by kernel_rfl, by kernel_rfl, by kernel_rfl, fun cy Y k => by kernel_rfl⟩
noncomputable def F60 : FFn := cF LV 0 [0, 2, 1, 7, 4, 6, 5] Try.f60
noncomputable def G60 (E : Env) : ZFn := ⟨24, [0, 2, 1, 7, 4, 6, 5], fun cy Y fuel =>
 (zSeq (zReg fun k => (zStep E (cy Y) ⟨.box 25 (.v 0), (.var 1), none, false, 0, (some 0)⟩) ((zStep E (cy Y) ⟨.alloc 59, (.var 4), none, false, 1, (some 1)⟩) ((zV 6 (vMv (.k (.bool false)))) k)))
 (zSeq (zReg fun k => (zP (vFieldAddr 1 (.v 1))) ((zL 1 false (.l 0)) ((zStep E (cy Y) ⟨.build 59 [(0, (.v 2))], .push, none, false, 3, none⟩) ((zCall (cy Y) 75 [(.l 1), (.l 0), (.k (.clo 50 []))] .push) ((zP (vExtract 0 (.l 0))) ((zP (vExtract 1 (.l 1))) ((zV 5 (vMv (.l 1))) ((zV 3 (vMv (.l 0))) k))))))))
 (zSeq (zSeq (zReg fun k => (zP (vNot (.v 3))) k)
 (zCond (.l 0) (zSeq (zReg fun k => (zStep E (cy Y) ⟨.build 59 [], .push, none, false, 0, none⟩) ((zStep E (cy Y) ⟨.store 59 (.v 4) (.l 0), .none, none, false, 1, none⟩) ((zV 6 (vMv (.k (.bool false)))) k)))
 zRet) zSkip))
 (zSeq (zReg fun k => (zP (vFieldAddr 1 (.v 1))) ((zL 1 false (.l 0)) ((zP (vIndexAddr 3 (.l 0) (.v 5))) ((zL 3 true (.l 0)) ((zStep E (cy Y) ⟨.store 59 (.v 4) (.l 0), .none, none, false, 5, none⟩) ((zV 6 (vMv (.k (.bool true)))) k))))))
 zRet)))), [.cell (.v 4) 59, .tmp (.v 6)]⟩
theorem G60_ok (fn : Nat → Option Func) (pu : Nat → Bool) (pr : Nat → List AV → Option (Heap → Option (Eff × Acc))) : ZOk ⟨Try.tyT, fn, pu, pr⟩ npT F60 (G60 ⟨Try.tyT, fn, pu, pr⟩) := ⟨by kernel_rfl, by kernel_rfl, by kernel_rfl, fun cy Y k => by kernel_rfl⟩
noncomputable def F62 : FFn := cF LV 0 [0, 1, 3, 4] Try.f62
noncomputable def G62 (E : Env) : ZFn := ⟨6, [0, 1, 3, 4], fun cy Y fuel =>
 (zSeq (zReg fun k => (zStep E (cy Y) ⟨.box 59 (.v 0), .push, none, false, 0, (some 0)⟩) ((zStep E (cy Y) ⟨.box 59 (.v 1), (.var 2), none, false, 1, (some 1)⟩) ((zStep E (cy Y) ⟨.alloc 59, (.var 3), none, false, 2, (some 2)⟩) k)))
 (zSeq (zReg fun k => (zL 3 true (.v 2)) ((zStep E (cy Y) ⟨.store 59 (.v 3) (.l 0), .none, none, false, 1, none⟩) k))
 zRet)), [.cell (.v 3) 59]⟩
theorem G62_ok (fn : Nat → Option Func) (pu : Nat → Bool) (pr : Nat → List AV → Option (Heap → Option (Eff × Acc))) : ZOk ⟨Try.tyT, fn, pu, pr⟩ npT F62 (G62 ⟨Try.tyT, fn, pu, pr⟩) := ⟨by kernel_rfl, by kernel_rfl, by kernel_rfl, fun cy Y k => by kernel_rfl⟩
noncomputable def F73 : FFn := cF LV 0 [0, 1, 5, 6, 4] Try.f73
noncomputable def G73 (E : Env) : ZFn := ⟨20, [0, 1, 5, 6, 4], fun cy Y fuel =>
 (zSeq (zReg fun k => (zV 4 (vMv (.k (.int .i64 0)))) k)
 (zSeq (zReg fun k => (zCall (cy Y) 87 [(.v 0)] .push) ((zV 2 (vMv (.l 0))) k))
 (zSeq (zReg fun k => (zCall (cy Y) 87 [(.v 1)] .push) ((zV 3 (vMv (.l 0))) k))
 (zSeq (zSeq (zReg fun k => k)
 (zCond (.v 2) (zSeq (zSeq (zReg fun k => k)
 (zCond (.v 3) (zSeq (zReg fun k => (zV 4 (vMv (.k (.int .i64 0)))) k)
 zRet) zSkip))
 (zSeq (zReg fun k => (zV 4 (vMv (.k (.int .i64 (-1))))) k)
 zRet)) zSkip))
 (zSeq (zSeq (zReg fun k => k)
 (zCond (.v 3) (zSeq (zReg fun k => (zV 4 (vMv (.k (.int .i64 1)))) k)
 zRet) zSkip))
 (zSeq (zSeq (zReg fun k => (zP (vInt E fLss .lss 3 false false (.v 0) (.v 1))) k)
 (zCond (.l 0) (zSeq (zReg fun k => (zV 4 (vMv (.k (.int .i64 (-1))))) k)
 zRet) zSkip))
 (zSeq (zSeq (zReg fun k => (zP (vInt E fGtr .gtr 3 false false (.v 0) (.v 1))) k)
 (zCond (.l 0) (zSeq (zReg fun k => (zV 4 (vMv (.k (.int .i64 1)))) k)
 zRet) zSkip))
 (zSeq (zReg fun k => (zV 4 (vMv (.k (.int .i64 0)))) k)
 zRet)))))))), [.tmp (.v 4)]⟩
theorem G73_ok (fn : Nat → Option Func) (pu : Nat → Bool) (pr : Nat → List AV → Option (Heap → Option (Eff × Acc))) : ZOk ⟨Try.tyT, fn, pu, pr⟩ npT F73 (G73 ⟨Try.tyT, fn, pu, pr⟩) := ⟨by kernel_rfl, by kernel_rfl, by kernel_rfl, fun cy Y k => by kernel_rfl⟩
noncomputable def F74 : FFn := cF LV 0 [0, 1, 2] Try.f74
noncomputable def G74 (E : Env) : ZFn := ⟨4, [0, 1, 2], fun cy Y fuel =>
 (zSeq (zReg fun k => (zStep E (cy Y) ⟨.box 90 (.v 0), (.var 1), none, false, 0, (some 0)⟩) ((zV 2 (vMv (.k .nilFunc))) k))
 (zSeq (zReg fun k => (zStep E (cy Y) ⟨.mkFunc 88 [(.v 1)], .push, none, false, 0, none⟩) ((zV 2 (vMv (.l 0))) k))
 zRet)), [.tmp (.v 2)]⟩
theorem G74_ok (fn : Nat → Option Func) (pu : Nat → Bool) (pr : Nat → List AV → Option (Heap → Option (Eff × Acc))) : ZOk ⟨Try.tyT, fn, pu, pr⟩ npT F74 (G74 ⟨Try.tyT, fn, pu, pr⟩) := ⟨by kernel_rfl, by kernel_rfl, by kernel_rfl, fun cy Y k => by kernel_rfl⟩
noncomputable def F75 : FFn := cF LV 0 [1, 0, 8, 9, 10, 2, 11, 4, 6, 7] Try.f75
noncomputable def xbody75 (E : Env) (call : CallTT) : CZ := (zSeq (zSeq (zReg fun k => (zP (vInt E fLss .lss 3 false false (.v 3) (.v 4))) k)
 (zCond (.l 0) zSkip (zExit 0)))
 (zBlock 1 (zSeq (zReg fun k => (zP (vInt E fAdd .add 3 false false (.v 3) (.v 4))) ((zP (vConv .u64 (.l 0))) ((zP (vBin E .shr 46 false true (.l 0) (.k (.int .u64 1)))) ((zP (vConv .i64 (.l 0))) ((zV 6 (vMv (.l 0))) k)))))
 (zSeq (zDreg 1 fun n0 k => (zPD (vIndexAddr 3 (.v 1) (.v 6))) ((zLD B22 4 3 true (.l 0)) ((zLD B22 5 3 true (.v 7)) ((zStepD E call B22 n0 ⟨.callv (.v 5) [(.l 1), (.l 0)], .push, none, false, 6, (some 0)⟩) ((zPD (vInt E fLss .lss 3 false true (.l 0) (.k (.int .i64 0)))) k)))))
 (zCond (.l 0) (zReg fun k => (zP (vInt E fAdd .add 3 false true (.v 6) (.k (.int .i64 1)))) ((zV 3 (vMv (.l 0))) k)) (zReg fun k => (zV 4 (vMv (.v 6))) k))))))
noncomputable def G75 (E : Env) : ZFn := ⟨49, [1, 0, 8, 9, 10, 2, 11, 4, 6, 7], fun cy Y fuel =>
 (zSeq (zReg fun k => (zStep E (cy Y) ⟨.box 59 (.v 0), (.var 7), none, false, 0, (some 0)⟩) ((zV 8 (vMv (.k (.int .i64 0)))) ((zV 9 (vMv (.k (.bool false)))) k)))
 (zSeq (zReg fun k => (zP (vLenL (.v 1))) ((zV 2 (vMv (.l 0))) k))
 (zSeq (zReg fun k => (zV 3 (vMv (.k (.int .i64 0)))) ((zV 4 (vMv (.v 2))) k))
 (zSeq (zBlock 0 (zLoop fuel (xbody75 E (cy Y))))
 (zSeq (zDreg 1 fun n0 k => (zPD (vInt E fLss .lss 3 false false (.v 3) (.v 2))) ((zGD (.l 0) true .push (zPD (vMv (.v 5)))) ((zGD (.l 1) true .push (zPD (vMv (.v 1)))) ((zGD (.l 2) true .push (zPD (vMv (.v 3)))) ((zGD (.l 3) true .push (zPD (vIndexAddr 3 (.l 1) (.l 0)))) ((zGD (.l 4) true .push (zLD B23 9 3 true (.l 0))) ((zGD (.l 5) true .push (zLD B23 10 3 true (.v 7))) ((zGD (.l 6) true .push (zStepD E (cy Y) B23 n0 ⟨.callv (.l 5) [(.l 1), (.l 0)], .push, none, false, 11, (some 0)⟩)) ((zGD (.l 7) true .push (zPD (vInt E fEql .eql 3 false true (.l 0) (.k (.int .i64 0))))) ((zPD (vPick (.l 8) (.l 0) (.k (.bool false)))) ((zVD 8 (vMv (.v 3))) ((zVD 9 (vMv (.l 0))) k))))))))))))
 zRet))))), [.tmp (.v 8), .tmp (.v 9)]⟩
theorem G75_ok (fn : Nat → Option Func) (pu : Nat → Bool) (pr : Nat → List AV → Option (Heap → Option (Eff × Acc))) : ZOk ⟨Try.tyT, fn, pu, pr⟩ npT F75 (G75 ⟨Try.tyT, fn, pu, pr⟩) := ⟨by kernel_rfl, by kernel_rfl, by kernel_rfl, fun cy Y k => by kernel_rfl⟩
noncomputable def F77 : FFn := cF LV 0 [0, 1, 4] Try.f77
noncomputable def G77 (E : Env) : ZFn := ⟨8, [0, 1, 4], fun cy Y fuel =>
 (zSeq (zReg fun k => (zV 2 (vMv (.k (.int .i64 0)))) k)
 (zSeq (zReg fun k => (zCall (cy Y) 91 [(.v 0), (.v 1)] .push) ((zV 2 (vMv (.l 0))) k))
 zRet)), [.tmp (.v 2)]⟩
theorem G77_ok (fn : Nat → Option Func) (pu : Nat → Bool) (pr : Nat → List AV → Option (Heap → Option (Eff × Acc))) : ZOk ⟨Try.tyT, fn, pu, pr⟩ npT F77 (G77 ⟨Try.tyT, fn, pu, pr⟩) := ⟨by kernel_rfl, by kernel_rfl, by kernel_rfl, fun cy Y k => by kernel_rfl⟩
noncomputable def F78 : FFn := cF LV 0 [0, 2] Try.f78
noncomputable def G78 (E : Env) : ZFn := ⟨6, [0, 2], fun cy Y fuel =>
 (zSeq (zReg fun k => (zV 1 (vMv (.k (.bool false)))) k)
 (zSeq (zReg fun k => (zP (vInt E fNeq .neq 40 false false (.v 0) (.v 0))) ((zV 1 (vMv (.l 0))) k))
 zRet)), [.tmp (.v 1)]⟩
theorem G78_ok (fn : Nat → Option Func) (pu : Nat → Bool) (pr : Nat → List AV → Option (Heap → Option (Eff × Acc))) : ZOk ⟨Try.tyT, fn, pu, pr⟩ npT F78 (G78 ⟨Try.tyT, fn, pu, pr⟩) := ⟨by kernel_rfl, by kernel_rfl, by kernel_rfl, fun cy Y k => by kernel_rfl⟩
noncomputable def F79 : FFn := cF LV 0 [1, 0, 8, 9, 10, 2, 11, 4, 6, 7] Try.f79
noncomputable def xbody79 (E : Env) (call : CallTT) : CZ := (zSeq (zSeq (zReg fun k => (zP (vInt E fLss .lss 3 false false (.v 3) (.v 4))) k)
 (zCond (.l 0) zSkip (zExit 0)))
 (zBlock 1 (zSeq (zReg fun k => (zP (vInt E fAdd .add 3 false false (.v 3) (.v 4))) ((zP (vConv .u64 (.l 0))) ((zP (vBin E .shr 46 false true (.l 0) (.k (.int .u64 1)))) ((zP (vConv .i64 (.l 0))) ((zV 6 (vMv (.l 0))) k)))))
 (zSeq (zDreg 1 fun n0 k => (zPD (vIndexAddr 2 (.v 1) (.v 6))) ((zLD B22 4 2 true (.l 0)) ((zLD B22 5 2 true (.v 7)) ((zStepD E call B22 n0 ⟨.callv (.v 5) [(.l 1), (.l 0)], .push, none, false, 6, (some 0)⟩) ((zPD (vInt E fLss .lss 3 false true (.l 0) (.k (.int .i64 0)))) k)))))
 (zCond (.l 0) (zReg fun k => (zP (vInt E fAdd .add 3 false true (.v 6) (.k (.int .i64 1)))) ((zV 3 (vMv (.l 0))) k)) (zReg fun k => (zV 4 (vMv (.v 6))) k))))))
noncomputable def G79 (E : Env) : ZFn := ⟨49, [1, 0, 8, 9, 10, 2, 11, 4, 6, 7], fun cy Y fuel =>
 (zSeq (zReg fun k => (zStep E (cy Y) ⟨.box 55 (.v 0), (.var 7), none, false, 0, (some 0)⟩) ((zV 8 (vMv (.k (.int .i64 0)))) ((zV 9 (vMv (.k (.bool false)))) k)))
 (zSeq (zReg fun k => (zP (vLenL (.v 1))) ((zV 2 (vMv (.l 0))) k))
 (zSeq (zReg fun k => (zV 3 (vMv (.k (.int .i64 0)))) ((zV 4 (vMv (.v 2))) k))
 (zSeq (zBlock 0 (zLoop fuel (xbody79 E (cy Y))))
 (zSeq (zDreg 1 fun n0 k => (zPD (vInt E fLss .lss 3 false false (.v 3) (.v 2))) ((zGD (.l 0) true .push (zPD (vMv (.v 5)))) ((zGD (.l 1) true .push (zPD (vMv (.v 1)))) ((zGD (.l 2) true .push (zPD (vMv (.v 3)))) ((zGD (.l 3) true .push (zPD (vIndexAddr 2 (.l 1) (.l 0)))) ((zGD (.l 4) true .push (zLD B23 9 2 true (.l 0))) ((zGD (.l 5) true .push (zLD B23 10 2 true (.v 7))) ((zGD (.l 6) true .push (zStepD E (cy Y) B23 n0 ⟨.callv (.l 5) [(.l 1), (.l 0)], .push, none, false, 11, (some 0)⟩)) ((zGD (.l 7) true .push (zPD (vInt E fEql .eql 3 false true (.l 0) (.k (.int .i64 0))))) ((zPD (vPick (.l 8) (.l 0) (.k (.bool false)))) ((zVD 8 (vMv (.v 3))) ((zVD 9 (vMv (.l 0))) k))))))))))))
 zRet))))), [.tmp (.v 8), .tmp (.v 9)]⟩
theorem G79_ok (fn : Nat → Option Func) (pu : Nat → Bool) (pr : Nat → List AV → Option (Heap → Option (Eff × Acc))) : ZOk ⟨Try.tyT, fn, pu, pr⟩ npT F79 (G79 ⟨Try.tyT, fn, pu, pr⟩) := ⟨by kernel_rfl, by kernel_rfl, by kernel_rfl, fun cy Y k => by kernel_rfl⟩
noncomputable def F87 : FFn := cF LV 0 [0, 2] Try.f87
noncomputable def G87 (E : Env) : ZFn := ⟨6, [0, 2], fun cy Y fuel =>
 (zSeq (zReg fun k => (zV 1 (vMv (.k (.bool false)))) k)
 (zSeq (zReg fun k => (zP (vInt E fNeq .neq 3 false false (.v 0) (.v 0))) ((zV 1 (vMv (.l 0))) k))
 zRet)), [.tmp (.v 1)]⟩
theorem G87_ok (fn : Nat → Option Func) (pu : Nat → Bool) (pr : Nat → List AV → Option (Heap → Option (Eff × Acc))) : ZOk ⟨Try.tyT, fn, pu, pr⟩ npT F87 (G87 ⟨Try.tyT, fn, pu, pr⟩) := ⟨by kernel_rfl, by kernel_rfl, by kernel_rfl, fun cy Y k => by kernel_rfl⟩
noncomputable def F88 : FFn := cF LV 0 [3, 1, 0] Try.f88
noncomputable def xbody88 (E : Env) (call : CallTT) : CZ := (zSeq (zSeq (zReg fun k => (zL 1 false (.v 1)) ((zP (vLenL (.l 0))) ((zP (vInt E fLss .lss 3 false false (.v 0) (.l 0))) k)))
 (zCond (.l 0) zSkip (zExit 0)))
 (zSeq (zBlock 1 (zSeq (zDreg 1 fun n0 k => (zLD B24 1 1 false (.v 1)) ((zPD (vInt E fSub .sub 3 false true (.v 0) (.k (.int .i64 1)))) ((zPD (vIndexAddr 1 (.l 1) (.l 0))) ((zLD B24 5 1 false (.l 0)) ((zLD B24 6 1 false (.v 1)) ((zPD (vIndexAddr 1 (.l 0) (.v 0))) ((zLD B24 9 1 false (.l 0)) ((zStepD E call B24 n0 ⟨.callv (.v 2) [(.l 3), (.l 0)], .push, none, false, 10, (some 0)⟩) ((zPD (vNot (.l 0))) k)))))))))
 (zCond (.l 0) zRet zSkip)))
 (zReg fun k => (zP (vMv (.v 0))) ((zP (vInt E fAdd .add 3 false true (.l 0) (.k (.int .i64 1)))) ((zV 0 (vMv (.l 0))) k)))))
noncomputable def G88 (E : Env) : ZFn := ⟨22, [3, 1, 0], fun cy Y fuel =>
 (zSeq (zReg fun k => (zV 0 (vMv (.k (.int .i64 1)))) k)
 (zBlock 0 (zLoop fuel (xbody88 E (cy Y))))), []⟩
theorem G88_ok (fn : Nat → Option Func) (pu : Nat → Bool) (pr : Nat → List AV → Option (Heap → Option (Eff × Acc))) : ZOk ⟨Try.tyT, fn, pu, pr⟩ npT F88 (G88 ⟨Try.tyT, fn, pu, pr⟩) := ⟨by kernel_rfl, by kernel_rfl, by kernel_rfl, fun cy Y k => by kernel_rfl⟩
noncomputable def F91 : FFn := cF LV 0 [0, 1, 4] Try.f91
noncomputable def G91 (E : Env) : ZFn := ⟨8, [0, 1, 4], fun cy Y fuel =>
 (zSeq (zReg fun k => (zV 2 (vMv (.k (.int .i64 0)))) k)
 (zSeq (zReg fun k => (zStep E (cy Y) ⟨.call 97 [(.v 0), (.v 1)], .push, none, false, 2, (some 0)⟩) ((zV 2 (vMv (.l 0))) k))
 zRet)), [.tmp (.v 2)]⟩
theorem G91_ok (fn : Nat → Option Func) (pu : Nat → Bool) (pr : Nat → List AV → Option (Heap → Option (Eff × Acc))) : ZOk ⟨Try.tyT, fn, pu, pr⟩ npT F91 (G91 ⟨Try.tyT, fn, pu, pr⟩) := ⟨by kernel_rfl, by kernel_rfl, by kernel_rfl, fun cy Y k => by kernel_rfl⟩
end Go.Proofs.PxV2
