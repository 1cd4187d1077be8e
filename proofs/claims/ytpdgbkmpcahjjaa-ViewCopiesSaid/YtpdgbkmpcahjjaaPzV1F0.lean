/- The functions of the seat, in one breath: part 0. -/
import Derived.Test.YtpdgbkmpcahjjaaPb3
import Derived.Test.YtpdgbkmpcahjjaaProg
import Derived.Test.YtpdgbkmpcahjjaaPxEnvV1
import Derived.KernelRfl
set_option maxRecDepth 100000
set_option linter.unusedVariables false
set_option linter.unusedSimpArgs false
namespace Go.Proofs.PxV1
open Go Go.Px Go.Proofs
def B0 : List Nat := [0, 0, 0, 6, 14, 30, 62, 127, 255]
def B1 : List Nat := [0, 0, 2, 6, 14, 31, 0, 0, 128, 384, 896, 2047, 0, 0, 16383, 32767]
def B2 : List Nat := [0, 1, 0, 7, 15, 31, 31, 127, 255, 31, 543, 1567, 3615, 8191, 16383, 32767, 65535, 65535, 262143, 524287, 65535, 1114111, 3211263, 65535, 8454143, 25231359, 66125823, 133234687, 268435455, 536870911, 1073741823, 2147483647, 4294967295, 8589934591, 17179869183, 34359738367, 68719476735, 137438953471, 68719476735, 549755813887, 1099511627775, 2199023255551]
def B3 : List Nat := [0, 1, 3, 7, 15, 31, 63, 127, 255, 511, 1023, 2047, 4095, 8191, 16383, 32767, 65535, 131071, 262143, 524287, 1048575, 2097151, 4194303, 8388607, 16777215, 33554431, 67108863, 134217727, 268435455, 536870911, 1073741823, 2147483647, 4294967295, 8589934591, 17179869183, 34359738367, 68719476735, 68719476735, 68719476735, 481036337151, 1099511627775, 2199023255551, 4398046511103, 8796093022207, 8796093022207, 35184372088831, 70368744177663, 140737488355327, 281474976710655, 562949953421311, 1125899906842623, 2251799813685247, 4503599627370495, 9007199254740991, 18014398509481983, 36028797018963967]
def B4 : List Nat := [0, 1, 3, 7, 15, 31, 63, 127, 255, 511, 1023, 2047, 4095, 8191, 16383, 32767, 65535, 131071, 262143, 131071, 655359, 2097151, 4194303, 131071, 16777215, 33554431, 67108863, 134217727]
def B5 : List Nat := [0, 1, 0, 4, 15, 0, 0, 64, 192, 480, 1023, 2047]
def B6 : List Nat := [0, 1, 0, 4, 12, 0, 63, 0, 128, 511, 1023, 2047]
def B7 : List Nat := [0, 1, 3, 0, 8, 0, 32, 127, 255, 511]
def B8 : List Nat := [0, 0, 3, 7, 0, 0, 48, 112, 255]
def B9 : List Nat := [0, 0, 0, 0, 0, 24, 56, 0, 252, 511, 1023]
def B10 : List Nat := [0, 1, 0, 4, 15, 0, 32, 0, 128, 511, 1023, 2047, 4095]
def B11 : List Nat := [0, 0, 0, 6, 14, 0, 63, 127]
def B12 : List Nat := [0, 0, 0, 6, 14, 30, 30, 30, 222, 478, 30, 2046, 4094, 8190, 4095, 32767]
def B13 : List Nat := [0, 0, 0, 4, 14, 30, 0, 0, 192, 448, 1023, 2047]
def LVL : List (Nat × List Nat) := [(0, [7, 8, 3, 4, 2])]
def LV (id : Nat) : List Nat := (lookT LVL id).getD []
def toldT : List Nat := [9, 59, 61, 76, 97]
def npT (f : Nat) : Bool := !(toldT.any fun g => Nat.beq g f)
noncomputable def L0 : LFn := ⟨12, [7, 8, 3, 4, 2], [(some 0), (some 1)], cC LV [7, 8, 3, 4, 2] 12 (codeAt [1, 0, 1, 0, 0] (bodyOf Try.f46)) 0, cC LV [7, 8, 3, 4, 2] 12 (codeAt [1, 0, 1, 0, 1] (bodyOf Try.f46)) 0⟩
noncomputable def M0 (E : Env) : ZLn := ⟨12, [7, 8, 3, 4, 2], [(some 0), (some 1)], fun cy Y fuel =>
  (zSeq (zReg fun k => (zV 2 (vMv (.v 0))) k)
  (zReg fun k => (zV 3 (vMv (.v 1))) k)), fun cy Y fuel =>
  (zBlock 1 (zSeq (zReg fun k => (zP (vInt E (fGen .geq) .geq 9 false false (.v 2) (.v 3))) k)
  (zCond (.l 0) (zSeq (zReg fun k => (zStep E (cy Y) ⟨.store 4 (.v 4) (.k (.bool false)), .none, none, false, 0, none⟩) k)
  zRet) zSkip)))⟩
theorem M0_ok (fn : Nat → Option Func) (pu : Nat → Bool) (pr : Nat → List AV → Option (Heap → Option (Eff × Acc))) : ZLOk ⟨Try.tyT, fn, pu, pr⟩ npT L0 (M0 ⟨Try.tyT, fn, pu, pr⟩) := ⟨rfl, fun cy Y k => by kernel_rfl, fun cy Y k => by kernel_rfl⟩
noncomputable def F4 : FFn := cF LV 0 [0, 9, 7, 1, 2, 8, 10, 11, 6] Try.f4
noncomputable def G4 (E : Env) : ZFn := ⟨93, [0, 9, 7, 1, 2, 8, 10, 11, 6], fun cy Y fuel =>
  (zSeq (zReg fun k => (zV 8 (vMv (.k (.bool false)))) k)
  (zSeq (zSeq (zReg fun k => (zStep E (cy Y) ⟨.call 9 [], .push, none, false, 0, (some 0)⟩) ((zP (vNot (.l 0))) k))
  (zCond (.l 0) (zSeq (zReg fun k => (zV 8 (vMv (.k (.bool false)))) k)
  zRet) zSkip))
  (zSeq (zSeq (zReg fun k => (zP (vLenL (.v 0))) ((zP (vInt E fGtr .gtr 3 false true (.l 0) (.k (.int .i64 20)))) k))
  (zCond (.l 0) (zSeq (zReg fun k => (zV 8 (vMv (.k (.bool true)))) k)
  zRet) zSkip))
  (zSeq (zReg fun k => (zStep E (cy Y) ⟨.build 25 [], .push, none, false, 0, none⟩) ((zStep E (cy Y) ⟨.alloc 25, (.var 2), none, false, 1, (some 0)⟩) ((zStep E (cy Y) ⟨.store 25 (.v 2) (.l 0), .none, none, false, 2, none⟩) k)))
  (zSeq (zReg fun k => (zV 5 (vMv (.k (.int .i64 2)))) k)
  (zSeq (zSeq (zReg fun k => (zV 1 (vMv (.k (.int .i64 0)))) k)
  (zBlock 0 (zLoop fuel (zSeq (zSeq (zReg fun k => (zP (vLenL (.v 0))) ((zP (vInt E fLss .lss 3 false false (.v 1) (.l 0))) k))
  (zCond (.l 0) zSkip (zExit 0)))
  (zSeq (zBlock 1 (zSeq (zDreg 1 fun n0 k => (zLD B0 0 2 true (.v 2)) ((zPD (vIndexAddr 1 (.v 0) (.v 1))) ((zLD B0 4 1 false (.l 0)) ((zPD (vInt E (fGen .rem) .rem 5 false true (.l 0) (.k (.int .u8 5)))) ((zPD (vConv .i64 (.l 0))) ((zCallD (cy Y) B0 7 26 [(.l 4), (.k (.str [109, 49])), (.l 0)] .push) ((zStepD E (cy Y) B0 n0 ⟨.store 25 (.v 2) (.l 0), .none, none, false, 8, none⟩) k)))))))
  (zReg fun k => (zP (vIndexAddr 1 (.v 0) (.v 1))) ((zL 1 false (.l 0)) ((zP (vInt E (fGen .rem) .rem 5 false true (.l 0) (.k (.int .u8 5)))) ((zP (vConv .i64 (.l 0))) ((zStep E (cy Y) ⟨.most false [(.l 0), (.k (.int .i64 3))], .push, none, false, 6, none⟩) ((zStep E (cy Y) ⟨.most true [(.k (.int .i64 1)), (.l 0)], .push, none, false, 7, none⟩) ((zV 5 (vMv (.l 0))) k)))))))))
  (zReg fun k => (zP (vMv (.v 1))) ((zP (vInt E fAdd .add 3 false true (.l 0) (.k (.int .i64 1)))) ((zV 1 (vMv (.l 0))) k))))))))
  (zSeq (zDreg 4 fun n0 k => (zLD B1 0 2 true (.v 2)) ((zPD (vInt E (fGen .rem) .rem 5 false true (.v 3) (.k (.int .u8 3)))) ((zPD (vConv .i64 (.l 0))) ((zPD (vInt E fAdd .add 3 false true (.l 0) (.k (.int .i64 1)))) ((zCallD (cy Y) B1 5 26 [(.l 3), (.k (.str [109, 49])), (.l 0)] .push) ((zLD B1 6 2 true (.v 2)) ((zPD (vInt E (fGen .rem) .rem 5 false true (.v 4) (.k (.int .u8 3)))) ((zPD (vConv .i64 (.l 0))) ((zPD (vInt E fAdd .add 3 false true (.l 0) (.k (.int .i64 1)))) ((zCallD (cy Y) B1 11 26 [(.l 3), (.k (.str [109, 49])), (.l 0)] .push) ((zStepD E (cy Y) B1 n0 ⟨.alloc 25, (.var 6), none, false, 12, (some 2)⟩) ((zStepD E (cy Y) B1 n0 ⟨.alloc 25, (.var 7), none, false, 13, (some 3)⟩) ((zStepD E (cy Y) B1 n0 ⟨.store 25 (.v 6) (.l 5), .none, none, false, 14, none⟩) ((zStepD E (cy Y) B1 n0 ⟨.store 25 (.v 7) (.l 0), .none, none, false, 15, none⟩) k))))))))))))))
  (zSeq (zDreg 8 fun n0 k => (zLD B2 0 2 true (.v 2)) ((zCallD (cy Y) B2 1 24 [(.l 0), (.k (.str [109, 49]))] .push) ((zPD (vInt E fEql .eql 3 false false (.l 0) (.v 5))) ((zGD (.l 0) true .push (zLD B2 5 2 true (.v 6))) ((zGD (.l 1) true .push (zLD B2 6 2 true (.v 2))) ((zGD (.l 2) true .push (zCallD (cy Y) B2 7 17 [(.l 1), (.l 0)] .push)) ((zGD (.l 3) true .push (zCallD (cy Y) B2 8 24 [(.l 0), (.k (.str [109, 49]))] .push)) ((zGD (.l 4) true .push (zPD (vMv (.v 3)))) ((zGD (.l 5) true .push (zPD (vInt E (fGen .rem) .rem 5 false true (.l 0) (.k (.int .u8 3))))) ((zGD (.l 6) true .push (zPD (vConv .i64 (.l 0)))) ((zGD (.l 7) true .push (zPD (vInt E fAdd .add 3 false true (.l 0) (.k (.int .i64 1))))) ((zGD (.l 8) true .push (zPD (vInt E fEql .eql 3 false false (.l 4) (.l 0)))) ((zPD (vPick (.l 9) (.l 0) (.k (.bool false)))) ((zGD (.l 0) true .push (zLD B2 16 2 true (.v 6))) ((zGD (.l 1) true .push (zLD B2 17 2 true (.v 7))) ((zGD (.l 2) true .push (zCallD (cy Y) B2 18 17 [(.l 1), (.l 0)] .push)) ((zGD (.l 3) true .push (zCallD (cy Y) B2 19 24 [(.l 0), (.k (.str [109, 49]))] .push)) ((zGD (.l 4) true .push (zPD (vMv (.v 3)))) ((zGD (.l 5) true .push (zPD (vInt E (fGen .rem) .rem 5 false true (.l 0) (.k (.int .u8 3))))) ((zGD (.l 6) true .push (zPD (vConv .i64 (.l 0)))) ((zGD (.l 7) true .push (zPD (vMv (.v 4)))) ((zGD (.l 8) true .push (zPD (vInt E (fGen .rem) .rem 5 false true (.l 0) (.k (.int .u8 3))))) ((zGD (.l 9) true .push (zPD (vConv .i64 (.l 0)))) ((zGD (.l 10) true .push (zStepD E (cy Y) B2 n0 ⟨.most true [(.l 3), (.l 0)], .push, none, false, 26, none⟩)) ((zGD (.l 11) true .push (zPD (vInt E fAdd .add 3 false true (.l 0) (.k (.int .i64 1))))) ((zGD (.l 12) true .push (zPD (vInt E fEql .eql 3 false false (.l 8) (.l 0)))) ((zPD (vPick (.l 13) (.l 0) (.k (.bool false)))) ((zGD (.l 0) true .push (zLD B2 31 2 true (.v 2))) ((zGD (.l 1) true .push (zCallD (cy Y) B2 32 24 [(.l 0), (.k (.str [109, 50]))] .push)) ((zGD (.l 2) true .push (zPD (vInt E fEql .eql 3 false true (.l 0) (.k (.int .i64 2))))) ((zPD (vPick (.l 3) (.l 0) (.k (.bool false)))) ((zGD (.l 0) true .push (zLD B2 36 2 true (.v 2))) ((zGD (.l 1) true .push (zCallD (cy Y) B2 37 26 [(.l 0), (.k (.str [])), (.k (.int .i64 2))] .push)) ((zGD (.l 2) true .push (zLD B2 38 2 true (.v 2))) ((zGD (.l 3) true .push (zCallD (cy Y) B2 39 12 [(.l 1), (.l 0)] .push)) ((zPD (vPick (.l 4) (.l 0) (.k (.bool false)))) ((zVD 8 (vMv (.l 0))) k)))))))))))))))))))))))))))))))))))))
  zRet)))))))), [.tmp (.v 8)]⟩
theorem G4_ok (fn : Nat → Option Func) (pu : Nat → Bool) (pr : Nat → List AV → Option (Heap → Option (Eff × Acc))) : ZOk ⟨Try.tyT, fn, pu, pr⟩ npT F4 (G4 ⟨Try.tyT, fn, pu, pr⟩) := ⟨by kernel_rfl, by kernel_rfl, by kernel_rfl, fun cy Y k => by kernel_rfl⟩
noncomputable def F9 : FFn := cF LV 0 [1, 2, 3, 4, 0] Try.f9
noncomputable def G9 (E : Env) : ZFn := ⟨68, [1, 2, 3, 4, 0], fun cy Y fuel =>
  (zSeq (zReg fun k => (zV 4 (vMv (.k (.bool false)))) k)
  (zSeq (zReg fun k => (zCall (cy Y) 14 [(.k (.int .i64 2))] .push) ((zStep E (cy Y) ⟨.alloc 25, (.var 0), none, false, 1, (some 1)⟩) ((zStep E (cy Y) ⟨.store 25 (.v 0) (.l 0), .none, none, false, 2, none⟩) k)))
  (zSeq (zReg fun k => (zL 2 true (.v 0)) ((zCall (cy Y) 22 [(.l 0), (.k (.int .i64 1))] .push) ((zStep E (cy Y) ⟨.alloc 25, (.var 1), none, false, 2, (some 1)⟩) ((zStep E (cy Y) ⟨.store 25 (.v 1) (.l 0), .none, none, false, 3, none⟩) k))))
  (zSeq (zReg fun k => (zL 2 true (.v 0)) ((zCall (cy Y) 26 [(.l 0), (.k (.str [109, 49])), (.k (.int .i64 3))] .push) ((zStep E (cy Y) ⟨.alloc 25, (.var 2), none, false, 2, (some 1)⟩) ((zStep E (cy Y) ⟨.store 25 (.v 2) (.l 0), .none, none, false, 3, none⟩) k))))
  (zSeq (zReg fun k => (zL 2 true (.v 1)) ((zL 2 true (.v 2)) ((zCall (cy Y) 17 [(.l 1), (.l 0)] .push) ((zStep E (cy Y) ⟨.alloc 25, (.var 3), none, false, 3, (some 1)⟩) ((zStep E (cy Y) ⟨.store 25 (.v 3) (.l 0), .none, none, false, 4, none⟩) k)))))
  (zSeq (zDreg 12 fun n0 k => (zLD B3 0 2 true (.v 0)) ((zCallD (cy Y) B3 1 10 [(.l 0)] .push) ((zGD (.l 0) true .push (zLD B3 3 2 true (.v 0))) ((zGD (.l 1) true .push (zCallD (cy Y) B3 4 20 [(.l 0)] .push)) ((zGD (.l 2) true .push (zPD (vLenL (.l 0)))) ((zGD (.l 3) true .push (zPD (vInt E fEql .eql 3 false true (.l 0) (.k (.int .i64 2))))) ((zPD (vPick (.l 4) (.l 0) (.k (.bool false)))) ((zGD (.l 0) true .push (zLD B3 9 2 true (.v 1))) ((zGD (.l 1) true .push (zCallD (cy Y) B3 10 20 [(.l 0)] .push)) ((zGD (.l 2) true .push (zPD (vLenL (.l 0)))) ((zGD (.l 3) true .push (zPD (vInt E fEql .eql 3 false true (.l 0) (.k (.int .i64 1))))) ((zPD (vPick (.l 4) (.l 0) (.k (.bool false)))) ((zGD (.l 0) true .push (zLD B3 15 2 true (.v 2))) ((zGD (.l 1) true .push (zCallD (cy Y) B3 16 24 [(.l 0), (.k (.str [109, 49]))] .push)) ((zGD (.l 2) true .push (zPD (vInt E fEql .eql 3 false true (.l 0) (.k (.int .i64 3))))) ((zPD (vPick (.l 3) (.l 0) (.k (.bool false)))) ((zGD (.l 0) true .push (zLD B3 20 2 true (.v 0))) ((zGD (.l 1) true .push (zCallD (cy Y) B3 21 24 [(.l 0), (.k (.str [109, 49]))] .push)) ((zGD (.l 2) true .push (zPD (vInt E fEql .eql 3 false true (.l 0) (.k (.int .i64 2))))) ((zPD (vPick (.l 3) (.l 0) (.k (.bool false)))) ((zGD (.l 0) true .push (zLD B3 25 2 true (.v 3))) ((zGD (.l 1) true .push (zCallD (cy Y) B3 26 20 [(.l 0)] .push)) ((zGD (.l 2) true .push (zPD (vLenL (.l 0)))) ((zGD (.l 3) true .push (zPD (vInt E fEql .eql 3 false true (.l 0) (.k (.int .i64 1))))) ((zPD (vPick (.l 4) (.l 0) (.k (.bool false)))) ((zGD (.l 0) true .push (zLD B3 31 2 true (.v 3))) ((zGD (.l 1) true .push (zCallD (cy Y) B3 32 24 [(.l 0), (.k (.str [109, 49]))] .push)) ((zGD (.l 2) true .push (zPD (vInt E fEql .eql 3 false true (.l 0) (.k (.int .i64 3))))) ((zPD (vPick (.l 3) (.l 0) (.k (.bool false)))) ((zGD (.l 0) true .push (zLD B3 36 2 true (.v 3))) ((zGD (.l 1) true .push (zLD B3 37 2 true (.v 2))) ((zGD (.l 2) true .push (zLD B3 38 2 true (.v 1))) ((zGD (.l 3) true .push (zCallD (cy Y) B3 39 17 [(.l 1), (.l 0)] .push)) ((zGD (.l 4) true .push (zCallD (cy Y) B3 40 12 [(.l 3), (.l 0)] .push)) ((zPD (vPick (.l 5) (.l 0) (.k (.bool false)))) ((zGD (.l 0) true .push (zLD B3 43 2 true (.v 0))) ((zGD (.l 1) true .push (zLD B3 44 2 true (.v 1))) ((zGD (.l 2) true .push (zCallD (cy Y) B3 45 12 [(.l 1), (.l 0)] .push)) ((zGD (.l 3) true .push (zPD (vNot (.l 0)))) ((zPD (vPick (.l 4) (.l 0) (.k (.bool false)))) ((zGD (.l 0) true .push (zStepD E (cy Y) B3 n0 ⟨.build 55 [(0, (.k (.int .i64 9))), (1, (.k (.int .u64 1)))], .push, none, false, 49, none⟩)) ((zGD (.l 1) true .push (zStepD E (cy Y) B3 n0 ⟨.buildSlice 22 1 [(0, (.l 0))], .push, none, false, 50, (some 10)⟩)) ((zGD (.l 2) true .push (zStepD E (cy Y) B3 n0 ⟨.build 25 [(0, (.l 0))], .push, none, false, 51, none⟩)) ((zGD (.l 3) true .push (zCallD (cy Y) B3 52 10 [(.l 0)] .push)) ((zGD (.l 4) true .push (zPD (vNot (.l 0)))) ((zPD (vPick (.l 5) (.l 0) (.k (.bool false)))) ((zVD 4 (vMv (.l 0))) k)))))))))))))))))))))))))))))))))))))))))))))))
  zRet)))))), [.tmp (.v 4)]⟩
theorem G9_ok (fn : Nat → Option Func) (pu : Nat → Bool) (pr : Nat → List AV → Option (Heap → Option (Eff × Acc))) : ZOk ⟨Try.tyT, fn, pu, pr⟩ npT F9 (G9 ⟨Try.tyT, fn, pu, pr⟩) := ⟨by kernel_rfl, by kernel_rfl, by kernel_rfl, fun cy Y k => by kernel_rfl⟩
noncomputable def F10 : FFn := cF LV 0 [0, 1, 11, 10, 9, 4, 3, 48, 47, 46, 7, 5, 2] Try.f10
noncomputable def G10 (E : Env) : ZFn := ⟨89, [0, 1, 11, 10, 9, 4, 3, 48, 47, 46, 7, 5, 2], fun cy Y fuel =>
  (zSeq (zReg fun k => (zStep E (cy Y) ⟨.box 25 (.v 0), (.var 1), none, false, 0, (some 0)⟩) ((zV 12 (vMv (.k (.bool false)))) k))
  (zSeq (zSeq (zReg fun k => (zP (vFieldAddr 0 (.v 1))) ((zDstW (.var 4) (wLoad 1 false (.l 0))) ((zV 3 (vLenL (.v 4))) ((zV 2 (vMv (.k (.int .i64 0)))) k))))
  (zBlock 0 (zLoop fuel (zSeq (zReg fun k => (zP (vInt E fLss .lss 3 false false (.v 2) (.v 3))) k)
  (zSeq (zCond (.l 0) zSkip (zExit 0))
  (zSeq (zBlock 1 (zSeq (zReg fun k => (zP (vIndexAddr 2 (.v 4) (.v 2))) ((zL 2 true (.l 0)) ((zStep E (cy Y) ⟨.alloc 55, (.var 5), none, false, 3, (some 0)⟩) ((zV 6 (vMv (.v 2))) ((zStep E (cy Y) ⟨.store 55 (.v 5) (.l 0), .none, none, false, 5, none⟩) k)))))
  (zSeq (zDreg 1 fun n0 k => (zPD (vFieldAddr 0 (.v 5))) ((zLD B4 1 1 false (.l 0)) ((zPD (vInt E fLss .lss 3 false true (.l 0) (.k (.int .i64 0)))) ((zGD (.l 0) false .push (zPD (vFieldAddr 0 (.v 5)))) ((zGD (.l 1) false .push (zLD B4 5 1 false (.l 0))) ((zGD (.l 2) false .push (zPD (vInt E (fGen .geq) .geq 3 false true (.l 0) (.k (.int .i64 4))))) ((zPD (vPick (.l 3) (.k (.bool true)) (.l 0))) ((zGD (.l 0) false .push (zPD (vFieldAddr 1 (.v 5)))) ((zGD (.l 1) false .push (zLD B4 10 1 false (.l 0))) ((zGD (.l 2) false .push (zPD (vInt E fEql .eql 40 false true (.l 0) (.k (.int .u64 0))))) ((zPD (vPick (.l 3) (.k (.bool true)) (.l 0))) ((zGD (.l 0) false .push (zPD (vMv (.v 6)))) ((zGD (.l 1) false .push (zPD (vInt E fGtr .gtr 3 false true (.l 0) (.k (.int .i64 0))))) ((zGD (.l 2) false .push (zPD (vMv (.l 0)))) ((zGD (.l 0) true .push (zPD (vFieldAddr 0 (.v 1)))) ((zGD (.l 1) true .push (zLD B4 18 1 false (.l 0))) ((zGD (.l 2) true .push (zPD (vMv (.v 6)))) ((zGD (.l 3) true .push (zPD (vInt E fSub .sub 3 false true (.l 0) (.k (.int .i64 1))))) ((zGD (.l 4) true .push (zPD (vIndexAddr 2 (.l 2) (.l 0)))) ((zGD (.l 5) true .push (zLD B4 22 2 true (.l 0))) ((zGD (.l 6) true .push (zLD B4 23 2 true (.v 5))) ((zGD (.l 7) true .push (zCallD (cy Y) B4 24 45 [(.l 1), (.l 0)] .push)) ((zGD (.l 8) true .push (zPD (vInt E (fGen .geq) .geq 3 false true (.l 0) (.k (.int .i64 0))))) ((zGD (.l 12) false .push (zPD (vPick (.l 9) (.l 0) (.k (.bool false))))) ((zPD (vPick (.l 13) (.k (.bool true)) (.l 0))) k)))))))))))))))))))))))))
  (zCond (.l 0) (zSeq (zReg fun k => (zV 12 (vMv (.k (.bool false)))) k)
  zRet) zSkip))))
  (zReg fun k => (zP (vInt E fAdd .add 3 false true (.v 2) (.k (.int .i64 1)))) ((zV 2 (vMv (.l 0))) k))))))))
  (zSeq (zReg fun k => (zV 11 (vMv (.k (.sl 0 [] true)))) k)
  (zSeq (zSeq (zReg fun k => (zP (vFieldAddr 1 (.v 1))) ((zDstW (.var 9) (wLoad 1 false (.l 0))) ((zV 8 (vLenL (.v 9))) ((zV 7 (vMv (.k (.int .i64 0)))) k))))
  (zBlock 2 (zLoop fuel (zSeq (zReg fun k => (zP (vInt E fLss .lss 3 false false (.v 7) (.v 8))) k)
  (zSeq (zCond (.l 0) zSkip (zExit 2))
  (zSeq (zBlock 3 (zSeq (zReg fun k => (zP (vIndexAddr 3 (.v 9) (.v 7))) ((zL 3 true (.l 0)) ((zStep E (cy Y) ⟨.alloc 59, (.var 10), none, false, 2, (some 0)⟩) ((zStep E (cy Y) ⟨.store 59 (.v 10) (.l 0), .none, none, false, 3, none⟩) k))))
  (zSeq (zSeq (zReg fun k => (zP (vFieldAddr 0 (.v 10))) ((zL 1 false (.l 0)) ((zP (vInt E fEql .eql 9 false true (.l 0) (.k (.str [])))) ((zG (.l 0) false .push (zP (vFieldAddr 0 (.v 10)))) ((zG (.l 1) false .push (zL 1 false (.l 0))) ((zG (.l 2) false .push (zP (vLenS (.l 0)))) ((zG (.l 3) false .push (zP (vInt E fGtr .gtr 3 false true (.l 0) (.k (.int .i64 8))))) ((zP (vPick (.l 4) (.k (.bool true)) (.l 0))) ((zG (.l 0) false .push (zP (vFieldAddr 1 (.v 10)))) ((zG (.l 1) false .push (zL 1 false (.l 0))) ((zG (.l 2) false .push (zP (vInt E fEql .eql 40 false true (.l 0) (.k (.int .u64 0))))) ((zP (vPick (.l 3) (.k (.bool true)) (.l 0))) ((zG (.l 0) false .push (zP (vFieldAddr 2 (.v 10)))) ((zG (.l 1) false .push (zL 1 false (.l 0))) ((zG (.l 2) false .push (zP (vInt E fLss .lss 40 false true (.l 0) (.k (.int .u64 1))))) ((zP (vPick (.l 3) (.k (.bool true)) (.l 0))) ((zG (.l 0) false .push (zP (vFieldAddr 2 (.v 10)))) ((zG (.l 1) false .push (zL 1 false (.l 0))) ((zG (.l 2) false .push (zP (vInt E fGtr .gtr 40 false true (.l 0) (.k (.int .u64 3))))) ((zP (vPick (.l 3) (.k (.bool true)) (.l 0))) k))))))))))))))))))))
  (zCond (.l 0) (zSeq (zReg fun k => (zV 12 (vMv (.k (.bool false)))) k)
  zRet) zSkip))
  (zReg fun k => (zP (vMv (.v 11))) ((zP (vFieldAddr 0 (.v 10))) ((zL 1 false (.l 0)) ((zStep E (cy Y) ⟨.buildSlice 57 1 [(0, (.l 0))], .push, none, false, 3, (some 0)⟩) ((zStep E (cy Y) ⟨.append 57 57 (.l 3) (.l 0), .push, none, false, 4, (some 1)⟩) ((zV 11 (vMv (.l 0))) k)))))))))
  (zReg fun k => (zP (vInt E fAdd .add 3 false true (.v 7) (.k (.int .i64 1)))) ((zV 7 (vMv (.l 0))) k))))))))
  (zSeq (zReg fun k => (zCall (cy Y) 46 [(.v 11)] .push) ((zG (.l 0) true .push (zP (vMv (.v 11)))) ((zG (.l 1) true .push (zP (vLenL (.l 0)))) ((zG (.l 2) true .push (zP (vInt E (fGen .leq) .leq 3 false true (.l 0) (.k (.int .i64 40))))) ((zP (vPick (.l 3) (.l 0) (.k (.bool false)))) ((zV 12 (vMv (.l 0))) k))))))
  zRet))))), [.tmp (.v 12)]⟩
theorem G10_ok (fn : Nat → Option Func) (pu : Nat → Bool) (pr : Nat → List AV → Option (Heap → Option (Eff × Acc))) : ZOk ⟨Try.tyT, fn, pu, pr⟩ npT F10 (G10 ⟨Try.tyT, fn, pu, pr⟩) := ⟨by kernel_rfl, by kernel_rfl, by kernel_rfl, fun cy Y k => by kernel_rfl⟩
noncomputable def F12 : FFn := cF LV 0 [0, 1, 2, 3, 4] Try.f12
noncomputable def G12 (E : Env) : ZFn := ⟨17, [0, 1, 2, 3, 4], fun cy Y fuel =>
  (zSeq (zReg fun k => (zStep E (cy Y) ⟨.box 25 (.v 0), (.var 2), none, false, 0, (some 0)⟩) ((zStep E (cy Y) ⟨.box 25 (.v 1), (.var 3), none, false, 1, (some 1)⟩) ((zV 4 (vMv (.k (.bool false)))) k)))
  (zSeq (zReg fun k => (zP (vFieldAddr 0 (.v 2))) ((zL 1 false (.l 0)) ((zP (vFieldAddr 0 (.v 3))) ((zL 1 false (.l 0)) ((zCall (cy Y) 47 [(.l 2), (.l 0)] .push) ((zG (.l 0) true .push (zP (vFieldAddr 1 (.v 2)))) ((zG (.l 1) true .push (zL 1 false (.l 0))) ((zG (.l 2) true .push (zP (vFieldAddr 1 (.v 3)))) ((zG (.l 3) true .push (zL 1 false (.l 0))) ((zG (.l 4) true .push (zCall (cy Y) 48 [(.l 2), (.l 0)] .push)) ((zP (vPick (.l 5) (.l 0) (.k (.bool false)))) ((zV 4 (vMv (.l 0))) k))))))))))))
  zRet)), [.tmp (.v 4)]⟩
theorem G12_ok (fn : Nat → Option Func) (pu : Nat → Bool) (pr : Nat → List AV → Option (Heap → Option (Eff × Acc))) : ZOk ⟨Try.tyT, fn, pu, pr⟩ npT F12 (G12 ⟨Try.tyT, fn, pu, pr⟩) := ⟨by kernel_rfl, by kernel_rfl, by kernel_rfl, fun cy Y k => by kernel_rfl⟩
noncomputable def F14 : FFn := cF LV 0 [0, 8, 7, 3, 4, 2] Try.f14
noncomputable def G14 (E : Env) : ZFn := ⟨20, [0, 8, 7, 3, 4, 2], fun cy Y fuel =>
  (zSeq (zReg fun k => (zStep E (cy Y) ⟨.alloc 25, (.var 5), none, false, 0, (some 0)⟩) k)
  (zSeq (zReg fun k => (zStep E (cy Y) ⟨.alloc 25, (.var 3), none, false, 0, (some 0)⟩) k)
  (zSeq (zSeq (zReg fun k => (zStep E (cy Y) ⟨.most true [(.v 0), (.k (.int .i64 1))], .push, none, false, 1, none⟩) ((zStep E (cy Y) ⟨.most false [(.l 0), (.k (.int .i64 4))], (.var 2), none, false, 2, none⟩) ((zV 1 (vMv (.k (.int .i64 0)))) k)))
  (zBlock 0 (zLoop fuel (zSeq (zReg fun k => (zP (vInt E fLss .lss 3 false false (.v 1) (.v 2))) k)
  (zSeq (zCond (.l 0) zSkip (zExit 0))
  (zSeq (zBlock 1 (zSeq (zReg fun k => (zV 4 (vMv (.v 1))) k)
  (zReg fun k => (zP (vFieldAddr 0 (.v 3))) ((zL 1 false (.l 0)) ((zStep E (cy Y) ⟨.build 55 [(0, (.v 4)), (1, (.k (.int .u64 1)))], .push, none, false, 3, none⟩) ((zStep E (cy Y) ⟨.buildSlice 22 1 [(0, (.l 0))], .push, none, false, 4, (some 0)⟩) ((zStep E (cy Y) ⟨.append 22 22 (.l 2) (.l 0), .push, none, false, 5, (some 1)⟩) ((zP (vFieldAddr 0 (.v 3))) ((zStep E (cy Y) ⟨.store 22 (.l 0) (.l 1), .none, none, false, 7, none⟩) k)))))))))
  (zReg fun k => (zP (vInt E fAdd .add 3 false true (.v 1) (.k (.int .i64 1)))) ((zV 1 (vMv (.l 0))) k))))))))
  (zSeq (zReg fun k => (zL 2 true (.v 3)) ((zStep E (cy Y) ⟨.store 25 (.v 5) (.l 0), .none, none, false, 1, none⟩) k))
  zRet)))), [.cell (.v 5) 25]⟩
theorem G14_ok (fn : Nat → Option Func) (pu : Nat → Bool) (pr : Nat → List AV → Option (Heap → Option (Eff × Acc))) : ZOk ⟨Try.tyT, fn, pu, pr⟩ npT F14 (G14 ⟨Try.tyT, fn, pu, pr⟩) := ⟨by kernel_rfl, by kernel_rfl, by kernel_rfl, fun cy Y k => by kernel_rfl⟩
noncomputable def F17 : FFn := cF LV 0 [0, 1, 2, 3, 5, 4] Try.f17
noncomputable def G17 (E : Env) : ZFn := ⟨22, [0, 1, 2, 3, 5, 4], fun cy Y fuel =>
  (zSeq (zReg fun k => (zStep E (cy Y) ⟨.box 25 (.v 0), (.var 2), none, false, 0, (some 0)⟩) ((zStep E (cy Y) ⟨.box 25 (.v 1), (.var 3), none, false, 1, (some 1)⟩) ((zStep E (cy Y) ⟨.alloc 25, (.var 5), none, false, 2, (some 2)⟩) k)))
  (zSeq (zReg fun k => (zP (vFieldAddr 1 (.v 2))) ((zL 1 false (.l 0)) ((zP (vFieldAddr 1 (.v 3))) ((zL 1 false (.l 0)) ((zCall (cy Y) 49 [(.l 2), (.l 0), (.k (.clo 50 [])), (.k (.clo 51 []))] .push) ((zV 4 (vMv (.l 0))) k))))))
  (zSeq (zDreg 1 fun n0 k => (zPD (vFieldAddr 0 (.v 2))) ((zLD B5 1 1 false (.l 0)) ((zPD (vFieldAddr 0 (.v 3))) ((zLD B5 3 1 false (.l 0)) ((zCallD (cy Y) B5 4 54 [(.l 2), (.l 0), (.k (.clo 45 [])), (.k (.clo 55 []))] .push) ((zPD (vLenL (.v 4))) ((zStepD E (cy Y) B5 n0 ⟨.most false [(.l 0), (.k (.int .i64 40))], .push, none, false, 8, none⟩) ((zStepD E (cy Y) B5 n0 ⟨.slice 23 (.v 4) none (some (.l 0)) none, .push, none, false, 9, none⟩) ((zStepD E (cy Y) B5 n0 ⟨.build 25 [(0, (.l 3)), (1, (.l 0))], .push, none, false, 10, none⟩) ((zStepD E (cy Y) B5 n0 ⟨.store 25 (.v 5) (.l 0), .none, none, false, 11, none⟩) k))))))))))
  zRet))), [.cell (.v 5) 25]⟩
theorem G17_ok (fn : Nat → Option Func) (pu : Nat → Bool) (pr : Nat → List AV → Option (Heap → Option (Eff × Acc))) : ZOk ⟨Try.tyT, fn, pu, pr⟩ npT F17 (G17 ⟨Try.tyT, fn, pu, pr⟩) := ⟨by kernel_rfl, by kernel_rfl, by kernel_rfl, fun cy Y k => by kernel_rfl⟩
noncomputable def F20 : FFn := cF LV 0 [0, 1, 9, 8, 7, 5, 3, 2] Try.f20
noncomputable def G20 (E : Env) : ZFn := ⟨24, [0, 1, 9, 8, 7, 5, 3, 2], fun cy Y fuel =>
  (zSeq (zReg fun k => (zStep E (cy Y) ⟨.box 25 (.v 0), (.var 1), none, false, 0, (some 0)⟩) ((zV 7 (vMv (.k (.sl 0 [] true)))) k))
  (zSeq (zReg fun k => (zV 6 (vMv (.k (.sl 0 [] true)))) k)
  (zSeq (zSeq (zReg fun k => (zP (vFieldAddr 0 (.v 1))) ((zDstW (.var 4) (wLoad 1 false (.l 0))) ((zV 3 (vLenL (.v 4))) ((zV 2 (vMv (.k (.int .i64 0)))) k))))
  (zBlock 0 (zLoop fuel (zSeq (zReg fun k => (zP (vInt E fLss .lss 3 false false (.v 2) (.v 3))) k)
  (zSeq (zCond (.l 0) zSkip (zExit 0))
  (zSeq (zBlock 1 (zSeq (zReg fun k => (zP (vIndexAddr 2 (.v 4) (.v 2))) ((zL 2 true (.l 0)) ((zStep E (cy Y) ⟨.alloc 55, (.var 5), none, false, 2, (some 0)⟩) ((zStep E (cy Y) ⟨.store 55 (.v 5) (.l 0), .none, none, false, 3, none⟩) k))))
  (zSeq (zReg fun k => (zP (vFieldAddr 1 (.v 5))) ((zL 1 false (.l 0)) ((zP (vInt E (fGen .rem) .rem 40 false true (.l 0) (.k (.int .u64 2)))) ((zP (vInt E fEql .eql 40 false true (.l 0) (.k (.int .u64 1)))) k))))
  (zCond (.l 0) (zReg fun k => (zP (vMv (.v 6))) ((zP (vFieldAddr 0 (.v 5))) ((zL 1 false (.l 0)) ((zStep E (cy Y) ⟨.buildSlice 32 1 [(0, (.l 0))], .push, none, false, 3, (some 0)⟩) ((zStep E (cy Y) ⟨.append 32 32 (.l 3) (.l 0), .push, none, false, 4, (some 1)⟩) ((zV 6 (vMv (.l 0))) k)))))) zSkip))))
  (zReg fun k => (zP (vInt E fAdd .add 3 false true (.v 2) (.k (.int .i64 1)))) ((zV 2 (vMv (.l 0))) k))))))))
  (zSeq (zReg fun k => (zV 7 (vMv (.v 6))) k)
  zRet)))), [.tmp (.v 7)]⟩
theorem G20_ok (fn : Nat → Option Func) (pu : Nat → Bool) (pr : Nat → List AV → Option (Heap → Option (Eff × Acc))) : ZOk ⟨Try.tyT, fn, pu, pr⟩ npT F20 (G20 ⟨Try.tyT, fn, pu, pr⟩) := ⟨by kernel_rfl, by kernel_rfl, by kernel_rfl, fun cy Y k => by kernel_rfl⟩
noncomputable def F22 : FFn := cF LV 0 [0, 1, 2, 4, 5] Try.f22
noncomputable def G22 (E : Env) : ZFn := ⟨24, [0, 1, 2, 4, 5], fun cy Y fuel =>
  (zSeq (zReg fun k => (zStep E (cy Y) ⟨.box 25 (.v 0), (.var 2), none, false, 0, (some 0)⟩) ((zStep E (cy Y) ⟨.alloc 25, (.var 3), none, false, 1, (some 1)⟩) k))
  (zSeq (zSeq (zReg fun k => (zP (vInt E fLss .lss 3 false true (.v 1) (.k (.int .i64 0)))) ((zG (.l 0) false .push (zP (vMv (.v 1)))) ((zG (.l 1) false .push (zP (vInt E (fGen .geq) .geq 3 false true (.l 0) (.k (.int .i64 4))))) ((zP (vPick (.l 2) (.k (.bool true)) (.l 0))) k))))
  (zCond (.l 0) (zSeq (zReg fun k => (zL 2 true (.v 2)) ((zStep E (cy Y) ⟨.store 25 (.v 3) (.l 0), .none, none, false, 1, none⟩) k))
  zRet) zSkip))
  (zSeq (zReg fun k => (zV 4 (vMv (.k (.clo 58 [])))) k)
  (zSeq (zDreg 3 fun n0 k => (zPD (vFieldAddr 0 (.v 2))) ((zLD B6 1 1 false (.l 0)) ((zStepD E (cy Y) B6 n0 ⟨.build 55 [(0, (.v 1)), (1, (.k (.int .u64 1)))], .push, none, false, 3, none⟩) ((zStepD E (cy Y) B6 n0 ⟨.buildSlice 22 1 [(0, (.l 0))], .push, none, false, 4, (some 0)⟩) ((zCallD (cy Y) B6 6 54 [(.l 2), (.l 0), (.k (.clo 45 [])), (.v 4)] .push) ((zPD (vFieldAddr 1 (.v 2))) ((zLD B6 8 1 false (.l 0)) ((zStepD E (cy Y) B6 n0 ⟨.call 59 [(.l 0)], .push, none, false, 9, (some 2)⟩) ((zStepD E (cy Y) B6 n0 ⟨.build 25 [(0, (.l 3)), (1, (.l 0))], .push, none, false, 10, none⟩) ((zStepD E (cy Y) B6 n0 ⟨.store 25 (.v 3) (.l 0), .none, none, false, 11, none⟩) k))))))))))
  zRet)))), [.cell (.v 3) 25]⟩
theorem G22_ok (fn : Nat → Option Func) (pu : Nat → Bool) (pr : Nat → List AV → Option (Heap → Option (Eff × Acc))) : ZOk ⟨Try.tyT, fn, pu, pr⟩ npT F22 (G22 ⟨Try.tyT, fn, pu, pr⟩) := ⟨by kernel_rfl, by kernel_rfl, by kernel_rfl, fun cy Y k => by kernel_rfl⟩
noncomputable def F24 : FFn := cF LV 0 [0, 2, 1, 6, 5, 4] Try.f24
noncomputable def G24 (E : Env) : ZFn := ⟨18, [0, 2, 1, 6, 5, 4], fun cy Y fuel =>
  (zSeq (zReg fun k => (zStep E (cy Y) ⟨.box 25 (.v 0), (.var 1), none, false, 0, (some 0)⟩) ((zV 5 (vMv (.k (.int .i64 0)))) k))
  (zSeq (zReg fun k => (zL 2 true (.v 1)) ((zCall (cy Y) 60 [(.l 0), (.v 2)] .push) ((zP (vExtract 0 (.l 0))) ((zP (vExtract 1 (.l 1))) ((zStep E (cy Y) ⟨.alloc 59, (.var 4), none, false, 6, (some 1)⟩) ((zStep E (cy Y) ⟨.store 59 (.v 4) (.l 1), .none, none, false, 7, none⟩) ((zV 3 (vMv (.l 0))) k)))))))
  (zSeq (zSeq (zReg fun k => (zP (vNot (.v 3))) k)
  (zCond (.l 0) (zSeq (zReg fun k => (zV 5 (vMv (.k (.int .i64 2)))) k)
  zRet) zSkip))
  (zSeq (zReg fun k => (zP (vFieldAddr 2 (.v 4))) ((zL 1 false (.l 0)) ((zP (vConv .i64 (.l 0))) ((zV 5 (vMv (.l 0))) k))))
  zRet)))), [.tmp (.v 5)]⟩
theorem G24_ok (fn : Nat → Option Func) (pu : Nat → Bool) (pr : Nat → List AV → Option (Heap → Option (Eff × Acc))) : ZOk ⟨Try.tyT, fn, pu, pr⟩ npT F24 (G24 ⟨Try.tyT, fn, pu, pr⟩) := ⟨by kernel_rfl, by kernel_rfl, by kernel_rfl, fun cy Y k => by kernel_rfl⟩
noncomputable def F26 : FFn := cF LV 0 [0, 3, 1, 8, 6, 7, 2, 9] Try.f26
noncomputable def G26 (E : Env) : ZFn := ⟨52, [0, 3, 1, 8, 6, 7, 2, 9], fun cy Y fuel =>
  (zSeq (zReg fun k => (zStep E (cy Y) ⟨.box 25 (.v 0), (.var 1), none, false, 0, (some 0)⟩) ((zStep E (cy Y) ⟨.alloc 25, (.var 4), none, false, 1, (some 1)⟩) k))
  (zSeq (zReg fun k => (zL 2 true (.v 1)) ((zCall (cy Y) 60 [(.l 0), (.v 2)] .push) ((zP (vExtract 0 (.l 0))) ((zP (vExtract 1 (.l 1))) ((zStep E (cy Y) ⟨.alloc 59, (.var 5), none, false, 6, (some 1)⟩) ((zStep E (cy Y) ⟨.store 59 (.v 5) (.l 1), .none, none, false, 7, none⟩) ((zV 3 (vMv (.l 0))) k)))))))
  (zSeq (zSeq (zReg fun k => (zP (vInt E fEql .eql 9 false true (.v 2) (.k (.str [])))) ((zG (.l 0) false .push (zP (vMv (.v 2)))) ((zG (.l 1) false .push (zP (vLenS (.l 0)))) ((zG (.l 2) false .push (zP (vInt E fGtr .gtr 3 false true (.l 0) (.k (.int .i64 8))))) ((zP (vPick (.l 3) (.k (.bool true)) (.l 0))) ((zG (.l 0) false .push (zP (vMv (.v 3)))) ((zG (.l 1) false .push (zP (vNot (.l 0)))) ((zG (.l 2) false .push (zP (vMv (.l 0)))) ((zG (.l 0) true .push (zP (vFieldAddr 1 (.v 1)))) ((zG (.l 1) true .push (zL 1 false (.l 0))) ((zG (.l 2) true .push (zP (vLenL (.l 0)))) ((zG (.l 3) true .push (zP (vInt E (fGen .geq) .geq 3 false true (.l 0) (.k (.int .i64 40))))) ((zG (.l 7) false .push (zP (vPick (.l 4) (.l 0) (.k (.bool false))))) ((zP (vPick (.l 8) (.k (.bool true)) (.l 0))) k))))))))))))))
  (zCond (.l 0) (zSeq (zReg fun k => (zL 2 true (.v 1)) ((zStep E (cy Y) ⟨.store 25 (.v 4) (.l 0), .none, none, false, 1, none⟩) k))
  zRet) zSkip))
  (zSeq (zReg fun k => (zP (vFieldAddr 1 (.v 5))) ((zL 1 false (.l 0)) ((zP (vInt E fAdd .add 40 false true (.l 0) (.k (.int .u64 1)))) ((zStep E (cy Y) ⟨.most true [(.v 6), (.k (.int .i64 1))], .push, none, false, 5, none⟩) ((zStep E (cy Y) ⟨.most false [(.l 0), (.k (.int .i64 3))], .push, none, false, 6, none⟩) ((zP (vConv .u64 (.l 0))) ((zStep E (cy Y) ⟨.build 59 [(0, (.v 2)), (1, (.l 3)), (2, (.l 0))], .push, none, false, 8, none⟩) ((zStep E (cy Y) ⟨.alloc 59, (.var 7), none, false, 9, (some 0)⟩) ((zStep E (cy Y) ⟨.store 59 (.v 7) (.l 0), .none, none, false, 10, none⟩) k)))))))))
  (zSeq (zDreg 3 fun n0 k => (zPD (vFieldAddr 0 (.v 1))) ((zLD B7 1 1 false (.l 0)) ((zStepD E (cy Y) B7 n0 ⟨.call 61 [(.l 0)], .push, none, false, 2, (some 0)⟩) ((zPD (vFieldAddr 1 (.v 1))) ((zLD B7 4 1 false (.l 0)) ((zLD B7 5 3 true (.v 7)) ((zStepD E (cy Y) B7 n0 ⟨.buildSlice 23 1 [(0, (.l 0))], .push, none, false, 6, (some 1)⟩) ((zCallD (cy Y) B7 7 49 [(.l 2), (.l 0), (.k (.clo 50 [])), (.k (.clo 62 []))] .push) ((zStepD E (cy Y) B7 n0 ⟨.build 25 [(0, (.l 5)), (1, (.l 0))], .push, none, false, 8, none⟩) ((zStepD E (cy Y) B7 n0 ⟨.store 25 (.v 4) (.l 0), .none, none, false, 9, none⟩) k))))))))))
  zRet))))), [.cell (.v 4) 25]⟩
theorem G26_ok (fn : Nat → Option Func) (pu : Nat → Bool) (pr : Nat → List AV → Option (Heap → Option (Eff × Acc))) : ZOk ⟨Try.tyT, fn, pu, pr⟩ npT F26 (G26 ⟨Try.tyT, fn, pu, pr⟩) := ⟨by kernel_rfl, by kernel_rfl, by kernel_rfl, fun cy Y k => by kernel_rfl⟩
noncomputable def F45 : FFn := cF LV 0 [0, 1, 2, 3, 4] Try.f45
noncomputable def G45 (E : Env) : ZFn := ⟨10, [0, 1, 2, 3, 4], fun cy Y fuel =>
  (zSeq (zReg fun k => (zStep E (cy Y) ⟨.box 55 (.v 0), (.var 2), none, false, 0, (some 0)⟩) ((zStep E (cy Y) ⟨.box 55 (.v 1), (.var 3), none, false, 1, (some 1)⟩) ((zV 4 (vMv (.k (.int .i64 0)))) k)))
  (zSeq (zReg fun k => (zP (vFieldAddr 0 (.v 2))) ((zL 1 false (.l 0)) ((zP (vFieldAddr 0 (.v 3))) ((zL 1 false (.l 0)) ((zCall (cy Y) 73 [(.l 2), (.l 0)] .push) ((zV 4 (vMv (.l 0))) k))))))
  zRet)), [.tmp (.v 4)]⟩
theorem G45_ok (fn : Nat → Option Func) (pu : Nat → Bool) (pr : Nat → List AV → Option (Heap → Option (Eff × Acc))) : ZOk ⟨Try.tyT, fn, pu, pr⟩ npT F45 (G45 ⟨Try.tyT, fn, pu, pr⟩) := ⟨by kernel_rfl, by kernel_rfl, by kernel_rfl, fun cy Y k => by kernel_rfl⟩
noncomputable def F46 : FFn := cF LV 0 [0, 2] Try.f46
noncomputable def G46 (E : Env) : ZFn := ⟨12, [0, 2], fun cy Y fuel =>
  (zSeq (zReg fun k => (zStep E (cy Y) ⟨.alloc 4, (.var 1), none, false, 0, (some 0)⟩) k)
  (zSeq (zSeq (zReg fun k => (zCall (cy Y) 74 [(.v 0)] .push) k)
  (zBlock 0 (zRange cy Y (.l 0) 0 [none, none, none, none, (some (.v 1))] [none, none, (some (.v 1)), none, none, none, none, none, none, none, none, none] [7, 8] (codeAt [1, 0, 1, 0, 0] (bodyOf Try.f46)) (codeAt [1, 0, 1, 0, 1] (bodyOf Try.f46)))))
  (zSeq (zReg fun k => (zStep E (cy Y) ⟨.store 4 (.v 1) (.k (.bool true)), .none, none, false, 0, none⟩) k)
  zRet))), [.cell (.v 1) 4]⟩
theorem G46_ok (fn : Nat → Option Func) (pu : Nat → Bool) (pr : Nat → List AV → Option (Heap → Option (Eff × Acc))) : ZOk ⟨Try.tyT, fn, pu, pr⟩ npT F46 (G46 ⟨Try.tyT, fn, pu, pr⟩) := ⟨by kernel_rfl, by kernel_rfl, by kernel_rfl, fun cy Y k => by kernel_rfl⟩
noncomputable def F47 : FFn := cF LV 0 [0, 1, 13, 12, 5, 4] Try.f47
noncomputable def G47 (E : Env) : ZFn := ⟨26, [0, 1, 13, 12, 5, 4], fun cy Y fuel =>
  (zSeq (zReg fun k => (zV 5 (vMv (.k (.bool false)))) k)
  (zSeq (zSeq (zReg fun k => (zP (vLenL (.v 0))) ((zP (vLenL (.v 1))) ((zP (vInt E fNeq .neq 3 false false (.l 1) (.l 0))) k)))
  (zCond (.l 0) (zSeq (zReg fun k => (zV 5 (vMv (.k (.bool false)))) k)
  zRet) zSkip))
  (zSeq (zSeq (zReg fun k => (zV 3 (vLenL (.v 0))) ((zV 2 (vMv (.k (.int .i64 0)))) k))
  (zBlock 0 (zLoop fuel (zSeq (zReg fun k => (zP (vInt E fLss .lss 3 false false (.v 2) (.v 3))) k)
  (zSeq (zCond (.l 0) zSkip (zExit 0))
  (zSeq (zBlock 1 (zSeq (zReg fun k => (zV 4 (vMv (.v 2))) k)
  (zSeq (zDreg 0 fun n0 k => (zPD (vIndexAddr 2 (.v 0) (.v 4))) ((zLD B8 3 2 true (.l 0)) ((zPD (vIndexAddr 2 (.v 1) (.v 4))) ((zLD B8 7 2 true (.l 0)) ((zPD (vInt E fNeq .neq 55 false false (.l 2) (.l 0))) k)))))
  (zCond (.l 0) (zSeq (zReg fun k => (zV 5 (vMv (.k (.bool false)))) k)
  zRet) zSkip))))
  (zReg fun k => (zP (vInt E fAdd .add 3 false true (.v 2) (.k (.int .i64 1)))) ((zV 2 (vMv (.l 0))) k))))))))
  (zSeq (zReg fun k => (zV 5 (vMv (.k (.bool true)))) k)
  zRet)))), [.tmp (.v 5)]⟩
theorem G47_ok (fn : Nat → Option Func) (pu : Nat → Bool) (pr : Nat → List AV → Option (Heap → Option (Eff × Acc))) : ZOk ⟨Try.tyT, fn, pu, pr⟩ npT F47 (G47 ⟨Try.tyT, fn, pu, pr⟩) := ⟨by kernel_rfl, by kernel_rfl, by kernel_rfl, fun cy Y k => by kernel_rfl⟩
noncomputable def F48 : FFn := cF LV 0 [0, 1, 13, 12, 5, 4] Try.f48
noncomputable def G48 (E : Env) : ZFn := ⟨26, [0, 1, 13, 12, 5, 4], fun cy Y fuel =>
  (zSeq (zReg fun k => (zV 5 (vMv (.k (.bool false)))) k)
  (zSeq (zSeq (zReg fun k => (zP (vLenL (.v 0))) ((zP (vLenL (.v 1))) ((zP (vInt E fNeq .neq 3 false false (.l 1) (.l 0))) k)))
  (zCond (.l 0) (zSeq (zReg fun k => (zV 5 (vMv (.k (.bool false)))) k)
  zRet) zSkip))
  (zSeq (zSeq (zReg fun k => (zV 3 (vLenL (.v 0))) ((zV 2 (vMv (.k (.int .i64 0)))) k))
  (zBlock 0 (zLoop fuel (zSeq (zReg fun k => (zP (vInt E fLss .lss 3 false false (.v 2) (.v 3))) k)
  (zSeq (zCond (.l 0) zSkip (zExit 0))
  (zSeq (zBlock 1 (zSeq (zReg fun k => (zV 4 (vMv (.v 2))) k)
  (zSeq (zDreg 0 fun n0 k => (zPD (vIndexAddr 3 (.v 0) (.v 4))) ((zLD B8 3 3 true (.l 0)) ((zPD (vIndexAddr 3 (.v 1) (.v 4))) ((zLD B8 7 3 true (.l 0)) ((zPD (vInt E fNeq .neq 59 false false (.l 2) (.l 0))) k)))))
  (zCond (.l 0) (zSeq (zReg fun k => (zV 5 (vMv (.k (.bool false)))) k)
  zRet) zSkip))))
  (zReg fun k => (zP (vInt E fAdd .add 3 false true (.v 2) (.k (.int .i64 1)))) ((zV 2 (vMv (.l 0))) k))))))))
  (zSeq (zReg fun k => (zV 5 (vMv (.k (.bool true)))) k)
  zRet)))), [.tmp (.v 5)]⟩
theorem G48_ok (fn : Nat → Option Func) (pu : Nat → Bool) (pr : Nat → List AV → Option (Heap → Option (Eff × Acc))) : ZOk ⟨Try.tyT, fn, pu, pr⟩ npT F48 (G48 ⟨Try.tyT, fn, pu, pr⟩) := ⟨by kernel_rfl, by kernel_rfl, by kernel_rfl, fun cy Y k => by kernel_rfl⟩
noncomputable def F49 : FFn := cF LV 0 [0, 1, 18, 17, 16, 9, 11, 2, 13, 12, 3, 8] Try.f49
noncomputable def G49 (E : Env) : ZFn := ⟨47, [0, 1, 18, 17, 16, 9, 11, 2, 13, 12, 3, 8], fun cy Y fuel =>
  (zSeq (zReg fun k => (zV 11 (vMv (.k (.sl 0 [] true)))) k)
  (zSeq (zReg fun k => (zStep E (cy Y) ⟨.call 59 [(.v 0)], .push, none, false, 1, (some 0)⟩) ((zV 5 (vMv (.l 0))) k))
  (zSeq (zSeq (zReg fun k => (zV 4 (vMv (.v 1))) ((zV 3 (vLenL (.v 4))) ((zV 2 (vMv (.k (.int .i64 0)))) k)))
  (zBlock 0 (zLoop fuel (zSeq (zReg fun k => (zP (vInt E fLss .lss 3 false false (.v 2) (.v 3))) k)
  (zSeq (zCond (.l 0) zSkip (zExit 0))
  (zSeq (zBlock 1 (zSeq (zReg fun k => (zP (vIndexAddr 3 (.v 4) (.v 2))) ((zL 3 true (.l 0)) ((zStep E (cy Y) ⟨.alloc 59, (.var 6), none, false, 2, (some 0)⟩) ((zStep E (cy Y) ⟨.store 59 (.v 6) (.l 0), .none, none, false, 3, none⟩) k))))
  (zSeq (zReg fun k => (zL 3 true (.v 6)) ((zCall (cy Y) 75 [(.v 5), (.l 0), (.v 7)] .push) ((zP (vExtract 0 (.l 0))) ((zP (vExtract 1 (.l 1))) ((zV 9 (vMv (.l 1))) ((zV 8 (vMv (.l 0))) k))))))
  (zSeq (zReg fun k => k)
  (zCond (.v 8) (zDreg 1 fun n0 k => (zPD (vIndexAddr 3 (.v 5) (.v 9))) ((zLD B9 6 3 true (.l 0)) ((zLD B9 7 3 true (.v 6)) ((zStepD E (cy Y) B9 n0 ⟨.callv (.v 10) [(.l 1), (.l 0)], .push, none, false, 8, (some 0)⟩) ((zPD (vIndexAddr 3 (.v 5) (.v 9))) ((zStepD E (cy Y) B9 n0 ⟨.store 59 (.l 0) (.l 1), .none, none, false, 10, none⟩) k)))))) (zReg fun k => (zP (vMv (.v 5))) ((zL 3 true (.v 6)) ((zStep E (cy Y) ⟨.buildSlice 23 1 [(0, (.l 0))], .push, none, false, 3, (some 0)⟩) ((zStep E (cy Y) ⟨.call 76 [(.l 2), (.v 9), (.l 0)], .push, none, false, 4, (some 1)⟩) ((zV 5 (vMv (.l 0))) k))))))))))
  (zReg fun k => (zP (vInt E fAdd .add 3 false true (.v 2) (.k (.int .i64 1)))) ((zV 2 (vMv (.l 0))) k))))))))
  (zSeq (zReg fun k => (zV 11 (vMv (.v 5))) k)
  zRet)))), [.tmp (.v 11)]⟩
theorem G49_ok (fn : Nat → Option Func) (pu : Nat → Bool) (pr : Nat → List AV → Option (Heap → Option (Eff × Acc))) : ZOk ⟨Try.tyT, fn, pu, pr⟩ npT F49 (G49 ⟨Try.tyT, fn, pu, pr⟩) := ⟨by kernel_rfl, by kernel_rfl, by kernel_rfl, fun cy Y k => by kernel_rfl⟩
noncomputable def F50 : FFn := cF LV 0 [0, 1, 2, 3, 4] Try.f50
noncomputable def G50 (E : Env) : ZFn := ⟨10, [0, 1, 2, 3, 4], fun cy Y fuel =>
  (zSeq (zReg fun k => (zStep E (cy Y) ⟨.box 59 (.v 0), (.var 2), none, false, 0, (some 0)⟩) ((zStep E (cy Y) ⟨.box 59 (.v 1), (.var 3), none, false, 1, (some 1)⟩) ((zV 4 (vMv (.k (.int .i64 0)))) k)))
  (zSeq (zReg fun k => (zP (vFieldAddr 0 (.v 2))) ((zL 1 false (.l 0)) ((zP (vFieldAddr 0 (.v 3))) ((zL 1 false (.l 0)) ((zCall (cy Y) 77 [(.l 2), (.l 0)] .push) ((zV 4 (vMv (.l 0))) k))))))
  zRet)), [.tmp (.v 4)]⟩
theorem G50_ok (fn : Nat → Option Func) (pu : Nat → Bool) (pr : Nat → List AV → Option (Heap → Option (Eff × Acc))) : ZOk ⟨Try.tyT, fn, pu, pr⟩ npT F50 (G50 ⟨Try.tyT, fn, pu, pr⟩) := ⟨by kernel_rfl, by kernel_rfl, by kernel_rfl, fun cy Y k => by kernel_rfl⟩
noncomputable def F51 : FFn := cF LV 0 [0, 1, 2, 3, 4] Try.f51
noncomputable def G51 (E : Env) : ZFn := ⟨20, [0, 1, 2, 3, 4], fun cy Y fuel =>
  (zSeq (zReg fun k => (zStep E (cy Y) ⟨.box 59 (.v 0), (.var 2), none, false, 0, (some 0)⟩) ((zStep E (cy Y) ⟨.box 59 (.v 1), (.var 3), none, false, 1, (some 1)⟩) ((zStep E (cy Y) ⟨.alloc 59, (.var 4), none, false, 2, (some 2)⟩) k)))
  (zSeq (zSeq (zDreg 4 fun n0 k => (zPD (vFieldAddr 1 (.v 2))) ((zLD B10 1 1 false (.l 0)) ((zPD (vFieldAddr 1 (.v 3))) ((zLD B10 3 1 false (.l 0)) ((zCallD (cy Y) B10 4 53 [(.l 2), (.l 0)] .push) ((zPD (vFieldAddr 2 (.v 2))) ((zLD B10 6 1 false (.l 0)) ((zPD (vFieldAddr 2 (.v 3))) ((zLD B10 8 1 false (.l 0)) ((zCallD (cy Y) B10 9 53 [(.l 2), (.l 0)] .push) ((zStepD E (cy Y) B10 n0 ⟨.buildSlice 32 2 [(0, (.l 5)), (1, (.l 0))], .push, none, false, 10, (some 2)⟩) ((zCallD (cy Y) B10 11 52 [(.l 0)] .push) ((zPD (vInt E fLss .lss 3 false true (.l 0) (.k (.int .i64 0)))) k)))))))))))))
  (zCond (.l 0) (zSeq (zReg fun k => (zL 3 true (.v 3)) ((zStep E (cy Y) ⟨.store 59 (.v 4) (.l 0), .none, none, false, 1, none⟩) k))
  zRet) zSkip))
  (zSeq (zReg fun k => (zL 3 true (.v 2)) ((zStep E (cy Y) ⟨.store 59 (.v 4) (.l 0), .none, none, false, 1, none⟩) k))
  zRet))), [.cell (.v 4) 59]⟩
theorem G51_ok (fn : Nat → Option Func) (pu : Nat → Bool) (pr : Nat → List AV → Option (Heap → Option (Eff × Acc))) : ZOk ⟨Try.tyT, fn, pu, pr⟩ npT F51 (G51 ⟨Try.tyT, fn, pu, pr⟩) := ⟨by kernel_rfl, by kernel_rfl, by kernel_rfl, fun cy Y k => by kernel_rfl⟩
noncomputable def F52 : FFn := cF LV 0 [0, 8, 7, 6, 5, 3, 2] Try.f52
noncomputable def G52 (E : Env) : ZFn := ⟨18, [0, 8, 7, 6, 5, 3, 2], fun cy Y fuel =>
  (zSeq (zReg fun k => (zV 6 (vMv (.k (.int .i64 0)))) k)
  (zSeq (zReg fun k => (zV 5 (vMv (.k (.int .i64 0)))) k)
  (zSeq (zSeq (zReg fun k => (zV 3 (vMv (.v 0))) ((zV 2 (vLenL (.v 3))) ((zV 1 (vMv (.k (.int .i64 0)))) k)))
  (zBlock 0 (zLoop fuel (zSeq (zReg fun k => (zP (vInt E fLss .lss 3 false false (.v 1) (.v 2))) k)
  (zSeq (zCond (.l 0) zSkip (zExit 0))
  (zSeq (zBlock 1 (zSeq (zReg fun k => (zP (vIndexAddr 1 (.v 3) (.v 1))) ((zL 1 false (.l 0)) ((zV 4 (vMv (.l 0))) k)))
  (zSeq (zReg fun k => (zP (vInt E fNeq .neq 3 false false (.v 4) (.v 5))) k)
  (zCond (.l 0) (zSeq (zReg fun k => (zV 6 (vMv (.v 4))) k)
  zRet) zSkip))))
  (zReg fun k => (zP (vInt E fAdd .add 3 false true (.v 1) (.k (.int .i64 1)))) ((zV 1 (vMv (.l 0))) k))))))))
  (zSeq (zReg fun k => (zV 6 (vMv (.v 5))) k)
  zRet)))), [.tmp (.v 6)]⟩
theorem G52_ok (fn : Nat → Option Func) (pu : Nat → Bool) (pr : Nat → List AV → Option (Heap → Option (Eff × Acc))) : ZOk ⟨Try.tyT, fn, pu, pr⟩ npT F52 (G52 ⟨Try.tyT, fn, pu, pr⟩) := ⟨by kernel_rfl, by kernel_rfl, by kernel_rfl, fun cy Y k => by kernel_rfl⟩
noncomputable def F53 : FFn := cF LV 0 [0, 1, 5, 6, 4] Try.f53
noncomputable def G53 (E : Env) : ZFn := ⟨20, [0, 1, 5, 6, 4], fun cy Y fuel =>
  (zSeq (zReg fun k => (zV 4 (vMv (.k (.int .i64 0)))) k)
  (zSeq (zReg fun k => (zCall (cy Y) 78 [(.v 0)] .push) ((zV 2 (vMv (.l 0))) k))
  (zSeq (zReg fun k => (zCall (cy Y) 78 [(.v 1)] .push) ((zV 3 (vMv (.l 0))) k))
  (zSeq (zSeq (zReg fun k => k)
  (zCond (.v 2) (zSeq (zSeq (zReg fun k => k)
  (zCond (.v 3) (zSeq (zReg fun k => (zV 4 (vMv (.k (.int .i64 0)))) k)
  zRet) zSkip))
  (zSeq (zReg fun k => (zV 4 (vMv (.k (.int .i64 (-1))))) k)
  zRet)) zSkip))
  (zSeq (zSeq (zReg fun k => k)
  (zCond (.v 3) (zSeq (zReg fun k => (zV 4 (vMv (.k (.int .i64 1)))) k)
  zRet) zSkip))
  (zSeq (zSeq (zReg fun k => (zP (vInt E fLss .lss 40 false false (.v 0) (.v 1))) k)
  (zCond (.l 0) (zSeq (zReg fun k => (zV 4 (vMv (.k (.int .i64 (-1))))) k)
  zRet) zSkip))
  (zSeq (zSeq (zReg fun k => (zP (vInt E fGtr .gtr 40 false false (.v 0) (.v 1))) k)
  (zCond (.l 0) (zSeq (zReg fun k => (zV 4 (vMv (.k (.int .i64 1)))) k)
  zRet) zSkip))
  (zSeq (zReg fun k => (zV 4 (vMv (.k (.int .i64 0)))) k)
  zRet)))))))), [.tmp (.v 4)]⟩
theorem G53_ok (fn : Nat → Option Func) (pu : Nat → Bool) (pr : Nat → List AV → Option (Heap → Option (Eff × Acc))) : ZOk ⟨Try.tyT, fn, pu, pr⟩ npT F53 (G53 ⟨Try.tyT, fn, pu, pr⟩) := ⟨by kernel_rfl, by kernel_rfl, by kernel_rfl, fun cy Y k => by kernel_rfl⟩
noncomputable def F54 : FFn := cF LV 0 [0, 1, 18, 17, 16, 9, 11, 2, 13, 12, 3, 8] Try.f54
noncomputable def G54 (E : Env) : ZFn := ⟨47, [0, 1, 18, 17, 16, 9, 11, 2, 13, 12, 3, 8], fun cy Y fuel =>
  (zSeq (zReg fun k => (zV 11 (vMv (.k (.sl 0 [] true)))) k)
  (zSeq (zReg fun k => (zStep E (cy Y) ⟨.call 61 [(.v 0)], .push, none, false, 1, (some 0)⟩) ((zV 5 (vMv (.l 0))) k))
  (zSeq (zSeq (zReg fun k => (zV 4 (vMv (.v 1))) ((zV 3 (vLenL (.v 4))) ((zV 2 (vMv (.k (.int .i64 0)))) k)))
  (zBlock 0 (zLoop fuel (zSeq (zReg fun k => (zP (vInt E fLss .lss 3 false false (.v 2) (.v 3))) k)
  (zSeq (zCond (.l 0) zSkip (zExit 0))
  (zSeq (zBlock 1 (zSeq (zReg fun k => (zP (vIndexAddr 2 (.v 4) (.v 2))) ((zL 2 true (.l 0)) ((zStep E (cy Y) ⟨.alloc 55, (.var 6), none, false, 2, (some 0)⟩) ((zStep E (cy Y) ⟨.store 55 (.v 6) (.l 0), .none, none, false, 3, none⟩) k))))
  (zSeq (zReg fun k => (zL 2 true (.v 6)) ((zCall (cy Y) 79 [(.v 5), (.l 0), (.v 7)] .push) ((zP (vExtract 0 (.l 0))) ((zP (vExtract 1 (.l 1))) ((zV 9 (vMv (.l 1))) ((zV 8 (vMv (.l 0))) k))))))
  (zSeq (zReg fun k => k)
  (zCond (.v 8) (zDreg 1 fun n0 k => (zPD (vIndexAddr 2 (.v 5) (.v 9))) ((zLD B9 6 2 true (.l 0)) ((zLD B9 7 2 true (.v 6)) ((zStepD E (cy Y) B9 n0 ⟨.callv (.v 10) [(.l 1), (.l 0)], .push, none, false, 8, (some 0)⟩) ((zPD (vIndexAddr 2 (.v 5) (.v 9))) ((zStepD E (cy Y) B9 n0 ⟨.store 55 (.l 0) (.l 1), .none, none, false, 10, none⟩) k)))))) (zReg fun k => (zP (vMv (.v 5))) ((zL 2 true (.v 6)) ((zStep E (cy Y) ⟨.buildSlice 22 1 [(0, (.l 0))], .push, none, false, 3, (some 0)⟩) ((zCall (cy Y) 80 [(.l 2), (.v 9), (.l 0)] .push) ((zV 5 (vMv (.l 0))) k))))))))))
  (zReg fun k => (zP (vInt E fAdd .add 3 false true (.v 2) (.k (.int .i64 1)))) ((zV 2 (vMv (.l 0))) k))))))))
  (zSeq (zReg fun k => (zV 11 (vMv (.v 5))) k)
  zRet)))), [.tmp (.v 11)]⟩
theorem G54_ok (fn : Nat → Option Func) (pu : Nat → Bool) (pr : Nat → List AV → Option (Heap → Option (Eff × Acc))) : ZOk ⟨Try.tyT, fn, pu, pr⟩ npT F54 (G54 ⟨Try.tyT, fn, pu, pr⟩) := ⟨by kernel_rfl, by kernel_rfl, by kernel_rfl, fun cy Y k => by kernel_rfl⟩
noncomputable def F55 : FFn := cF LV 0 [0, 1, 2, 3, 4] Try.f55
noncomputable def G55 (E : Env) : ZFn := ⟨13, [0, 1, 2, 3, 4], fun cy Y fuel =>
  (zSeq (zReg fun k => (zStep E (cy Y) ⟨.box 55 (.v 0), (.var 2), none, false, 0, (some 0)⟩) ((zStep E (cy Y) ⟨.box 55 (.v 1), (.var 3), none, false, 1, (some 1)⟩) ((zStep E (cy Y) ⟨.alloc 55, (.var 4), none, false, 2, (some 2)⟩) k)))
  (zSeq (zReg fun k => (zP (vFieldAddr 0 (.v 2))) ((zL 1 false (.l 0)) ((zP (vFieldAddr 1 (.v 2))) ((zL 1 false (.l 0)) ((zP (vFieldAddr 1 (.v 3))) ((zL 1 false (.l 0)) ((zStep E (cy Y) ⟨.most true [(.l 2), (.l 0)], .push, none, false, 6, none⟩) ((zStep E (cy Y) ⟨.build 55 [(0, (.l 5)), (1, (.l 0))], .push, none, false, 7, none⟩) ((zStep E (cy Y) ⟨.store 55 (.v 4) (.l 0), .none, none, false, 8, none⟩) k)))))))))
  zRet)), [.cell (.v 4) 55]⟩
theorem G55_ok (fn : Nat → Option Func) (pu : Nat → Bool) (pr : Nat → List AV → Option (Heap → Option (Eff × Acc))) : ZOk ⟨Try.tyT, fn, pu, pr⟩ npT F55 (G55 ⟨Try.tyT, fn, pu, pr⟩) := ⟨by kernel_rfl, by kernel_rfl, by kernel_rfl, fun cy Y k => by kernel_rfl⟩
noncomputable def F58 : FFn := cF LV 0 [0, 1, 2, 4] Try.f58
noncomputable def G58 (E : Env) : ZFn := ⟨11, [0, 1, 2, 4], fun cy Y fuel =>
  (zSeq (zReg fun k => (zStep E (cy Y) ⟨.box 55 (.v 0), (.var 2), none, false, 0, (some 0)⟩) ((zStep E (cy Y) ⟨.box 55 (.v 1), .push, none, false, 1, (some 1)⟩) ((zStep E (cy Y) ⟨.alloc 55, (.var 3), none, false, 2, (some 2)⟩) k)))
  (zSeq (zReg fun k => (zP (vFieldAddr 0 (.v 2))) ((zL 1 false (.l 0)) ((zP (vFieldAddr 1 (.v 2))) ((zL 1 false (.l 0)) ((zP (vInt E fAdd .add 40 false true (.l 0) (.k (.int .u64 1)))) ((zStep E (cy Y) ⟨.build 55 [(0, (.l 3)), (1, (.l 0))], .push, none, false, 5, none⟩) ((zStep E (cy Y) ⟨.store 55 (.v 3) (.l 0), .none, none, false, 6, none⟩) k)))))))
  zRet)), [.cell (.v 3) 55]⟩
theorem G58_ok (fn : Nat → Option Func) (pu : Nat → Bool) (pr : Nat → List AV → Option (Heap → Option (Eff × Acc))) : ZOk ⟨Try.tyT, fn, pu, pr⟩ npT F58 (G58 ⟨Try.tyT, fn, pu, pr⟩) := ⟨by kernel_rfl, by kernel_rfl, by kernel_rfl, fun cy Y k => by kernel_rfl⟩
noncomputable def F60 : FFn := cF LV 0 [0, 2, 1, 7, 4, 6, 5] Try.f60
noncomputable def G60 (E : Env) : ZFn := ⟨24, [0, 2, 1, 7, 4, 6, 5], fun cy Y fuel =>
  (zSeq (zReg fun k => (zStep E (cy Y) ⟨.box 25 (.v 0), (.var 1), none, false, 0, (some 0)⟩) ((zStep E (cy Y) ⟨.alloc 59, (.var 4), none, false, 1, (some 1)⟩) ((zV 6 (vMv (.k (.bool false)))) k)))
  (zSeq (zReg fun k => (zP (vFieldAddr 1 (.v 1))) ((zL 1 false (.l 0)) ((zStep E (cy Y) ⟨.build 59 [(0, (.v 2))], .push, none, false, 3, none⟩) ((zCall (cy Y) 75 [(.l 1), (.l 0), (.k (.clo 50 []))] .push) ((zP (vExtract 0 (.l 0))) ((zP (vExtract 1 (.l 1))) ((zV 5 (vMv (.l 1))) ((zV 3 (vMv (.l 0))) k))))))))
  (zSeq (zSeq (zReg fun k => (zP (vNot (.v 3))) k)
  (zCond (.l 0) (zSeq (zReg fun k => (zStep E (cy Y) ⟨.build 59 [], .push, none, false, 0, none⟩) ((zStep E (cy Y) ⟨.store 59 (.v 4) (.l 0), .none, none, false, 1, none⟩) ((zV 6 (vMv (.k (.bool false)))) k)))
  zRet) zSkip))
  (zSeq (zReg fun k => (zP (vFieldAddr 1 (.v 1))) ((zL 1 false (.l 0)) ((zP (vIndexAddr 3 (.l 0) (.v 5))) ((zL 3 true (.l 0)) ((zStep E (cy Y) ⟨.store 59 (.v 4) (.l 0), .none, none, false, 5, none⟩) ((zV 6 (vMv (.k (.bool true)))) k))))))
  zRet)))), [.cell (.v 4) 59, .tmp (.v 6)]⟩
theorem G60_ok (fn : Nat → Option Func) (pu : Nat → Bool) (pr : Nat → List AV → Option (Heap → Option (Eff × Acc))) : ZOk ⟨Try.tyT, fn, pu, pr⟩ npT F60 (G60 ⟨Try.tyT, fn, pu, pr⟩) := ⟨by kernel_rfl, by kernel_rfl, by kernel_rfl, fun cy Y k => by kernel_rfl⟩
noncomputable def F62 : FFn := cF LV 0 [0, 1, 3, 4] Try.f62
noncomputable def G62 (E : Env) : ZFn := ⟨6, [0, 1, 3, 4], fun cy Y fuel =>
  (zSeq (zReg fun k => (zStep E (cy Y) ⟨.box 59 (.v 0), .push, none, false, 0, (some 0)⟩) ((zStep E (cy Y) ⟨.box 59 (.v 1), (.var 2), none, false, 1, (some 1)⟩) ((zStep E (cy Y) ⟨.alloc 59, (.var 3), none, false, 2, (some 2)⟩) k)))
  (zSeq (zReg fun k => (zL 3 true (.v 2)) ((zStep E (cy Y) ⟨.store 59 (.v 3) (.l 0), .none, none, false, 1, none⟩) k))
  zRet)), [.cell (.v 3) 59]⟩
theorem G62_ok (fn : Nat → Option Func) (pu : Nat → Bool) (pr : Nat → List AV → Option (Heap → Option (Eff × Acc))) : ZOk ⟨Try.tyT, fn, pu, pr⟩ npT F62 (G62 ⟨Try.tyT, fn, pu, pr⟩) := ⟨by kernel_rfl, by kernel_rfl, by kernel_rfl, fun cy Y k => by kernel_rfl⟩
noncomputable def F73 : FFn := cF LV 0 [0, 1, 5, 6, 4] Try.f73
noncomputable def G73 (E : Env) : ZFn := ⟨20, [0, 1, 5, 6, 4], fun cy Y fuel =>
  (zSeq (zReg fun k => (zV 4 (vMv (.k (.int .i64 0)))) k)
  (zSeq (zReg fun k => (zCall (cy Y) 87 [(.v 0)] .push) ((zV 2 (vMv (.l 0))) k))
  (zSeq (zReg fun k => (zCall (cy Y) 87 [(.v 1)] .push) ((zV 3 (vMv (.l 0))) k))
  (zSeq (zSeq (zReg fun k => k)
  (zCond (.v 2) (zSeq (zSeq (zReg fun k => k)
  (zCond (.v 3) (zSeq (zReg fun k => (zV 4 (vMv (.k (.int .i64 0)))) k)
  zRet) zSkip))
  (zSeq (zReg fun k => (zV 4 (vMv (.k (.int .i64 (-1))))) k)
  zRet)) zSkip))
  (zSeq (zSeq (zReg fun k => k)
  (zCond (.v 3) (zSeq (zReg fun k => (zV 4 (vMv (.k (.int .i64 1)))) k)
  zRet) zSkip))
  (zSeq (zSeq (zReg fun k => (zP (vInt E fLss .lss 3 false false (.v 0) (.v 1))) k)
  (zCond (.l 0) (zSeq (zReg fun k => (zV 4 (vMv (.k (.int .i64 (-1))))) k)
  zRet) zSkip))
  (zSeq (zSeq (zReg fun k => (zP (vInt E fGtr .gtr 3 false false (.v 0) (.v 1))) k)
  (zCond (.l 0) (zSeq (zReg fun k => (zV 4 (vMv (.k (.int .i64 1)))) k)
  zRet) zSkip))
  (zSeq (zReg fun k => (zV 4 (vMv (.k (.int .i64 0)))) k)
  zRet)))))))), [.tmp (.v 4)]⟩
theorem G73_ok (fn : Nat → Option Func) (pu : Nat → Bool) (pr : Nat → List AV → Option (Heap → Option (Eff × Acc))) : ZOk ⟨Try.tyT, fn, pu, pr⟩ npT F73 (G73 ⟨Try.tyT, fn, pu, pr⟩) := ⟨by kernel_rfl, by kernel_rfl, by kernel_rfl, fun cy Y k => by kernel_rfl⟩
noncomputable def F74 : FFn := cF LV 0 [0, 1, 2] Try.f74
noncomputable def G74 (E : Env) : ZFn := ⟨4, [0, 1, 2], fun cy Y fuel =>
  (zSeq (zReg fun k => (zStep E (cy Y) ⟨.box 90 (.v 0), (.var 1), none, false, 0, (some 0)⟩) ((zV 2 (vMv (.k .nilFunc))) k))
  (zSeq (zReg fun k => (zStep E (cy Y) ⟨.mkFunc 88 [(.v 1)], .push, none, false, 0, none⟩) ((zV 2 (vMv (.l 0))) k))
  zRet)), [.tmp (.v 2)]⟩
theorem G74_ok (fn : Nat → Option Func) (pu : Nat → Bool) (pr : Nat → List AV → Option (Heap → Option (Eff × Acc))) : ZOk ⟨Try.tyT, fn, pu, pr⟩ npT F74 (G74 ⟨Try.tyT, fn, pu, pr⟩) := ⟨by kernel_rfl, by kernel_rfl, by kernel_rfl, fun cy Y k => by kernel_rfl⟩
noncomputable def F75 : FFn := cF LV 0 [1, 0, 8, 9, 10, 2, 11, 4, 6, 7] Try.f75
noncomputable def G75 (E : Env) : ZFn := ⟨49, [1, 0, 8, 9, 10, 2, 11, 4, 6, 7], fun cy Y fuel =>
  (zSeq (zReg fun k => (zStep E (cy Y) ⟨.box 59 (.v 0), (.var 7), none, false, 0, (some 0)⟩) ((zV 8 (vMv (.k (.int .i64 0)))) ((zV 9 (vMv (.k (.bool false)))) k)))
  (zSeq (zReg fun k => (zP (vLenL (.v 1))) ((zV 2 (vMv (.l 0))) k))
  (zSeq (zReg fun k => (zV 3 (vMv (.k (.int .i64 0)))) ((zV 4 (vMv (.v 2))) k))
  (zSeq (zBlock 0 (zLoop fuel (zSeq (zSeq (zReg fun k => (zP (vInt E fLss .lss 3 false false (.v 3) (.v 4))) k)
  (zCond (.l 0) zSkip (zExit 0)))
  (zBlock 1 (zSeq (zReg fun k => (zP (vInt E fAdd .add 3 false false (.v 3) (.v 4))) ((zP (vConv .u64 (.l 0))) ((zP (vBin E .shr 46 false true (.l 0) (.k (.int .u64 1)))) ((zP (vConv .i64 (.l 0))) ((zV 6 (vMv (.l 0))) k)))))
  (zSeq (zDreg 1 fun n0 k => (zPD (vIndexAddr 3 (.v 1) (.v 6))) ((zLD B11 4 3 true (.l 0)) ((zLD B11 5 3 true (.v 7)) ((zStepD E (cy Y) B11 n0 ⟨.callv (.v 5) [(.l 1), (.l 0)], .push, none, false, 6, (some 0)⟩) ((zPD (vInt E fLss .lss 3 false true (.l 0) (.k (.int .i64 0)))) k)))))
  (zCond (.l 0) (zReg fun k => (zP (vInt E fAdd .add 3 false true (.v 6) (.k (.int .i64 1)))) ((zV 3 (vMv (.l 0))) k)) (zReg fun k => (zV 4 (vMv (.v 6))) k))))))))
  (zSeq (zDreg 1 fun n0 k => (zPD (vInt E fLss .lss 3 false false (.v 3) (.v 2))) ((zGD (.l 0) true .push (zPD (vMv (.v 5)))) ((zGD (.l 1) true .push (zPD (vMv (.v 1)))) ((zGD (.l 2) true .push (zPD (vMv (.v 3)))) ((zGD (.l 3) true .push (zPD (vIndexAddr 3 (.l 1) (.l 0)))) ((zGD (.l 4) true .push (zLD B12 9 3 true (.l 0))) ((zGD (.l 5) true .push (zLD B12 10 3 true (.v 7))) ((zGD (.l 6) true .push (zStepD E (cy Y) B12 n0 ⟨.callv (.l 5) [(.l 1), (.l 0)], .push, none, false, 11, (some 0)⟩)) ((zGD (.l 7) true .push (zPD (vInt E fEql .eql 3 false true (.l 0) (.k (.int .i64 0))))) ((zPD (vPick (.l 8) (.l 0) (.k (.bool false)))) ((zVD 8 (vMv (.v 3))) ((zVD 9 (vMv (.l 0))) k))))))))))))
  zRet))))), [.tmp (.v 8), .tmp (.v 9)]⟩
theorem G75_ok (fn : Nat → Option Func) (pu : Nat → Bool) (pr : Nat → List AV → Option (Heap → Option (Eff × Acc))) : ZOk ⟨Try.tyT, fn, pu, pr⟩ npT F75 (G75 ⟨Try.tyT, fn, pu, pr⟩) := ⟨by kernel_rfl, by kernel_rfl, by kernel_rfl, fun cy Y k => by kernel_rfl⟩
noncomputable def F77 : FFn := cF LV 0 [0, 1, 4] Try.f77
noncomputable def G77 (E : Env) : ZFn := ⟨8, [0, 1, 4], fun cy Y fuel =>
  (zSeq (zReg fun k => (zV 2 (vMv (.k (.int .i64 0)))) k)
  (zSeq (zReg fun k => (zCall (cy Y) 91 [(.v 0), (.v 1)] .push) ((zV 2 (vMv (.l 0))) k))
  zRet)), [.tmp (.v 2)]⟩
theorem G77_ok (fn : Nat → Option Func) (pu : Nat → Bool) (pr : Nat → List AV → Option (Heap → Option (Eff × Acc))) : ZOk ⟨Try.tyT, fn, pu, pr⟩ npT F77 (G77 ⟨Try.tyT, fn, pu, pr⟩) := ⟨by kernel_rfl, by kernel_rfl, by kernel_rfl, fun cy Y k => by kernel_rfl⟩
noncomputable def F78 : FFn := cF LV 0 [0, 2] Try.f78
noncomputable def G78 (E : Env) : ZFn := ⟨6, [0, 2], fun cy Y fuel =>
  (zSeq (zReg fun k => (zV 1 (vMv (.k (.bool false)))) k)
  (zSeq (zReg fun k => (zP (vInt E fNeq .neq 40 false false (.v 0) (.v 0))) ((zV 1 (vMv (.l 0))) k))
  zRet)), [.tmp (.v 1)]⟩
theorem G78_ok (fn : Nat → Option Func) (pu : Nat → Bool) (pr : Nat → List AV → Option (Heap → Option (Eff × Acc))) : ZOk ⟨Try.tyT, fn, pu, pr⟩ npT F78 (G78 ⟨Try.tyT, fn, pu, pr⟩) := ⟨by kernel_rfl, by kernel_rfl, by kernel_rfl, fun cy Y k => by kernel_rfl⟩
noncomputable def F79 : FFn := cF LV 0 [1, 0, 8, 9, 10, 2, 11, 4, 6, 7] Try.f79
noncomputable def G79 (E : Env) : ZFn := ⟨49, [1, 0, 8, 9, 10, 2, 11, 4, 6, 7], fun cy Y fuel =>
  (zSeq (zReg fun k => (zStep E (cy Y) ⟨.box 55 (.v 0), (.var 7), none, false, 0, (some 0)⟩) ((zV 8 (vMv (.k (.int .i64 0)))) ((zV 9 (vMv (.k (.bool false)))) k)))
  (zSeq (zReg fun k => (zP (vLenL (.v 1))) ((zV 2 (vMv (.l 0))) k))
  (zSeq (zReg fun k => (zV 3 (vMv (.k (.int .i64 0)))) ((zV 4 (vMv (.v 2))) k))
  (zSeq (zBlock 0 (zLoop fuel (zSeq (zSeq (zReg fun k => (zP (vInt E fLss .lss 3 false false (.v 3) (.v 4))) k)
  (zCond (.l 0) zSkip (zExit 0)))
  (zBlock 1 (zSeq (zReg fun k => (zP (vInt E fAdd .add 3 false false (.v 3) (.v 4))) ((zP (vConv .u64 (.l 0))) ((zP (vBin E .shr 46 false true (.l 0) (.k (.int .u64 1)))) ((zP (vConv .i64 (.l 0))) ((zV 6 (vMv (.l 0))) k)))))
  (zSeq (zDreg 1 fun n0 k => (zPD (vIndexAddr 2 (.v 1) (.v 6))) ((zLD B11 4 2 true (.l 0)) ((zLD B11 5 2 true (.v 7)) ((zStepD E (cy Y) B11 n0 ⟨.callv (.v 5) [(.l 1), (.l 0)], .push, none, false, 6, (some 0)⟩) ((zPD (vInt E fLss .lss 3 false true (.l 0) (.k (.int .i64 0)))) k)))))
  (zCond (.l 0) (zReg fun k => (zP (vInt E fAdd .add 3 false true (.v 6) (.k (.int .i64 1)))) ((zV 3 (vMv (.l 0))) k)) (zReg fun k => (zV 4 (vMv (.v 6))) k))))))))
  (zSeq (zDreg 1 fun n0 k => (zPD (vInt E fLss .lss 3 false false (.v 3) (.v 2))) ((zGD (.l 0) true .push (zPD (vMv (.v 5)))) ((zGD (.l 1) true .push (zPD (vMv (.v 1)))) ((zGD (.l 2) true .push (zPD (vMv (.v 3)))) ((zGD (.l 3) true .push (zPD (vIndexAddr 2 (.l 1) (.l 0)))) ((zGD (.l 4) true .push (zLD B12 9 2 true (.l 0))) ((zGD (.l 5) true .push (zLD B12 10 2 true (.v 7))) ((zGD (.l 6) true .push (zStepD E (cy Y) B12 n0 ⟨.callv (.l 5) [(.l 1), (.l 0)], .push, none, false, 11, (some 0)⟩)) ((zGD (.l 7) true .push (zPD (vInt E fEql .eql 3 false true (.l 0) (.k (.int .i64 0))))) ((zPD (vPick (.l 8) (.l 0) (.k (.bool false)))) ((zVD 8 (vMv (.v 3))) ((zVD 9 (vMv (.l 0))) k))))))))))))
  zRet))))), [.tmp (.v 8), .tmp (.v 9)]⟩
theorem G79_ok (fn : Nat → Option Func) (pu : Nat → Bool) (pr : Nat → List AV → Option (Heap → Option (Eff × Acc))) : ZOk ⟨Try.tyT, fn, pu, pr⟩ npT F79 (G79 ⟨Try.tyT, fn, pu, pr⟩) := ⟨by kernel_rfl, by kernel_rfl, by kernel_rfl, fun cy Y k => by kernel_rfl⟩
noncomputable def F87 : FFn := cF LV 0 [0, 2] Try.f87
noncomputable def G87 (E : Env) : ZFn := ⟨6, [0, 2], fun cy Y fuel =>
  (zSeq (zReg fun k => (zV 1 (vMv (.k (.bool false)))) k)
  (zSeq (zReg fun k => (zP (vInt E fNeq .neq 3 false false (.v 0) (.v 0))) ((zV 1 (vMv (.l 0))) k))
  zRet)), [.tmp (.v 1)]⟩
theorem G87_ok (fn : Nat → Option Func) (pu : Nat → Bool) (pr : Nat → List AV → Option (Heap → Option (Eff × Acc))) : ZOk ⟨Try.tyT, fn, pu, pr⟩ npT F87 (G87 ⟨Try.tyT, fn, pu, pr⟩) := ⟨by kernel_rfl, by kernel_rfl, by kernel_rfl, fun cy Y k => by kernel_rfl⟩
noncomputable def F88 : FFn := cF LV 0 [3, 1, 0] Try.f88
noncomputable def G88 (E : Env) : ZFn := ⟨22, [3, 1, 0], fun cy Y fuel =>
  (zSeq (zReg fun k => (zV 0 (vMv (.k (.int .i64 1)))) k)
  (zBlock 0 (zLoop fuel (zSeq (zSeq (zReg fun k => (zL 1 false (.v 1)) ((zP (vLenL (.l 0))) ((zP (vInt E fLss .lss 3 false false (.v 0) (.l 0))) k)))
  (zCond (.l 0) zSkip (zExit 0)))
  (zSeq (zBlock 1 (zSeq (zDreg 1 fun n0 k => (zLD B13 1 1 false (.v 1)) ((zPD (vInt E fSub .sub 3 false true (.v 0) (.k (.int .i64 1)))) ((zPD (vIndexAddr 1 (.l 1) (.l 0))) ((zLD B13 5 1 false (.l 0)) ((zLD B13 6 1 false (.v 1)) ((zPD (vIndexAddr 1 (.l 0) (.v 0))) ((zLD B13 9 1 false (.l 0)) ((zStepD E (cy Y) B13 n0 ⟨.callv (.v 2) [(.l 3), (.l 0)], .push, none, false, 10, (some 0)⟩) ((zPD (vNot (.l 0))) k)))))))))
  (zCond (.l 0) zRet zSkip)))
  (zReg fun k => (zP (vMv (.v 0))) ((zP (vInt E fAdd .add 3 false true (.l 0) (.k (.int .i64 1)))) ((zV 0 (vMv (.l 0))) k)))))))), []⟩
theorem G88_ok (fn : Nat → Option Func) (pu : Nat → Bool) (pr : Nat → List AV → Option (Heap → Option (Eff × Acc))) : ZOk ⟨Try.tyT, fn, pu, pr⟩ npT F88 (G88 ⟨Try.tyT, fn, pu, pr⟩) := ⟨by kernel_rfl, by kernel_rfl, by kernel_rfl, fun cy Y k => by kernel_rfl⟩
noncomputable def F91 : FFn := cF LV 0 [0, 1, 4] Try.f91
noncomputable def G91 (E : Env) : ZFn := ⟨8, [0, 1, 4], fun cy Y fuel =>
  (zSeq (zReg fun k => (zV 2 (vMv (.k (.int .i64 0)))) k)
  (zSeq (zReg fun k => (zStep E (cy Y) ⟨.call 97 [(.v 0), (.v 1)], .push, none, false, 2, (some 0)⟩) ((zV 2 (vMv (.l 0))) k))
  zRet)), [.tmp (.v 2)]⟩
theorem G91_ok (fn : Nat → Option Func) (pu : Nat → Bool) (pr : Nat → List AV → Option (Heap → Option (Eff × Acc))) : ZOk ⟨Try.tyT, fn, pu, pr⟩ npT F91 (G91 ⟨Try.tyT, fn, pu, pr⟩) := ⟨by kernel_rfl, by kernel_rfl, by kernel_rfl, fun cy Y k => by kernel_rfl⟩
end Go.Proofs.PxV1
