/- The functions of the seat, in one breath: part 0. -/
import Derived.Test.YtpdgbkmpcahjjaaPb3
import Derived.Test.YtpdgbkmpcahjjaaProg
import Derived.Test.YtpdgbkmpcahjjaaPxEnvR2
import Derived.KernelRfl
set_option maxRecDepth 100000
set_option linter.unusedVariables false
set_option linter.unusedSimpArgs false
namespace Go.Proofs.PxR2
open Go Go.Px Go.Proofs
def B0 : List Nat := [0, 0, 3, 0, 0, 31, 63, 127, 255, 255, 255, 2047, 255, 255, 255, 32767, 65535, 131071, 262143, 524287, 524287, 524287, 4194303, 524287, 524287, 524287, 67108863, 134217727, 268435455, 536870911]
def B1 : List Nat := [0, 1, 3, 7, 15, 31, 63, 127, 255, 511, 1023, 2047, 4095, 8191, 16383, 32767, 65535, 131071, 262143, 131071, 655359, 2097151, 4194303, 8388607, 131071, 16908287, 67108863, 134217727, 268435455]
def B2 : List Nat := [0, 1, 3, 7, 15, 31, 63, 127, 255, 511, 1023, 2047, 4095, 8191, 16383, 32767, 65535, 131071, 262143, 524287, 1048575, 2097151, 4194303, 8388607, 16777215, 33554431, 67108863, 134217727, 268435455, 536870911, 1073741823, 536870911, 2684354559, 8589934591, 17179869183, 34359738367, 536870911, 69256347647, 274877906943, 549755813887, 1099511627775]
def B3 : List Nat := [0, 1, 0, 7, 15, 0, 32, 0, 224, 480, 1023]
def B4 : List Nat := [0, 0, 3, 7, 0, 0, 48, 112, 255]
def B5 : List Nat := [0, 0, 3, 7, 0, 31, 0, 127, 0, 0, 768, 1792, 4095, 0, 16383]
def B6 : List Nat := [0, 0, 2, 7, 15, 31, 31, 127, 255, 511, 31, 1055, 4095, 8191, 16383, 16383, 65535, 131071, 262143, 16383, 540671, 2097151, 4194303, 8388607, 8388607, 33554431, 67108863, 134217727, 8388607, 276824063, 1073741823, 2147483647, 4294967295, 8589934591]
def B7 : List Nat := [0, 0, 3, 7, 0, 16, 63, 0, 0, 384, 1023, 2047]
def B8 : List Nat := [0, 1, 3, 7, 15, 15, 47, 111, 255, 511, 1023, 2047, 4095, 8191, 16383, 32767, 65535, 131071, 131071, 524287, 1048575, 2097151, 4194303, 8388607, 16777215, 16777215, 67108863, 134217727, 268435455, 536870911, 1073741823]
def B9 : List Nat := [0, 1, 0, 0, 0, 27, 63, 127]
def B10 : List Nat := [0, 0, 3, 0, 0, 31, 63, 127]
def B11 : List Nat := [0, 0, 0, 6, 0, 30, 62, 127, 255]
def B12 : List Nat := [0, 0, 0, 6, 14, 0, 63, 127]
def B13 : List Nat := [0, 0, 0, 6, 14, 30, 30, 30, 222, 478, 30, 2046, 4094, 8190, 4095, 32767]
def B14 : List Nat := [0, 1, 3, 7, 7, 7, 39, 119, 247, 7, 7, 1543, 3591, 8191, 16383, 32767, 65535]
def B15 : List Nat := [0, 0, 3, 7, 15, 15, 15, 111, 239, 15, 15, 1039, 3599, 7695, 16383, 32767, 65535]
def B16 : List Nat := [0, 0, 0, 0, 8, 0, 0, 64, 224, 480, 0, 0, 3072, 7168, 16355, 32739, 65535, 131071]
def LVL : List (Nat × List Nat) := [(0, [12, 5, 6]), (1, [7, 3, 4, 2])]
def LV (id : Nat) : List Nat := (lookT LVL id).getD []
def toldT : List Nat := [59, 61, 76, 83, 97]
def npT (f : Nat) : Bool := !(toldT.any fun g => Nat.beq g f)
noncomputable def L0 : LFn := ⟨18, [12, 5, 6], [(some 0)], cC LV [12, 5, 6] 18 (codeAt [1, 1, 0, 1, 0, 0] (bodyOf Try.f33)) 0, cC LV [12, 5, 6] 18 (codeAt [1, 1, 0, 1, 0, 1] (bodyOf Try.f33)) 0⟩
noncomputable def M0 (E : Env) : ZLn := ⟨18, [12, 5, 6], [(some 0)], fun cy Y fuel =>
  (zReg fun k => (zV 2 (vMv (.v 0))) k), fun cy Y fuel =>
  (zBlock 1 (zReg fun k => (zL 1 false (.v 1)) ((zStep E (cy Y) ⟨.buildSlice 32 1 [(0, (.v 2))], .push, none, false, 2, (some 0)⟩) ((zStep E (cy Y) ⟨.append 32 32 (.l 1) (.l 0), .push, none, false, 3, (some 1)⟩) ((zStep E (cy Y) ⟨.store 32 (.v 1) (.l 0), .none, none, false, 4, none⟩) k)))))⟩
theorem M0_ok (fn : Nat → Option Func) (pu : Nat → Bool) (pr : Nat → List AV → Option (Heap → Option (Eff × Acc))) : ZLOk ⟨Try.tyT, fn, pu, pr⟩ npT L0 (M0 ⟨Try.tyT, fn, pu, pr⟩) := ⟨rfl, fun cy Y k => by kernel_rfl, fun cy Y k => by kernel_rfl⟩
noncomputable def L1 : LFn := ⟨20, [7, 3, 4, 2], [(some 0)], cC LV [7, 3, 4, 2] 20 (codeAt [1, 1, 1, 0, 0] (bodyOf Try.f82)) 0, cC LV [7, 3, 4, 2] 20 (codeAt [1, 1, 1, 0, 1] (bodyOf Try.f82)) 0⟩
noncomputable def M1 (E : Env) : ZLn := ⟨20, [7, 3, 4, 2], [(some 0)], fun cy Y fuel =>
  (zReg fun k => (zV 2 (vMv (.v 0))) k), fun cy Y fuel =>
  (zBlock 1 (zSeq (zSeq (zReg fun k => (zL 1 false (.v 1)) ((zStep E (cy Y) ⟨.lookup 100 (.l 0) (.v 2) false, .push, none, false, 2, none⟩) ((zP (vNot (.l 0))) ((zG (.l 0) true .push (zL 1 false (.v 3))) ((zG (.l 1) true .push (zP (vMv (.v 2)))) ((zG (.l 2) true .push (zStep E (cy Y) ⟨.callv (.l 1) [(.l 0)], .push, none, false, 7, (some 0)⟩)) ((zG (.l 3) true .push (zP (vNot (.l 0)))) ((zP (vPick (.l 4) (.l 0) (.k (.bool false)))) k))))))))
  (zCond (.l 0) zRet zSkip))
  (zReg fun k => (zL 1 false (.v 1)) ((zStep E (cy Y) ⟨.mapUp 100 (.l 0) (.v 2) (.k (.bool true)), .none, none, false, 2, none⟩) k))))⟩
theorem M1_ok (fn : Nat → Option Func) (pu : Nat → Bool) (pr : Nat → List AV → Option (Heap → Option (Eff × Acc))) : ZLOk ⟨Try.tyT, fn, pu, pr⟩ npT L1 (M1 ⟨Try.tyT, fn, pu, pr⟩) := ⟨rfl, fun cy Y k => by kernel_rfl, fun cy Y k => by kernel_rfl⟩
noncomputable def F5 : FFn := cF LV 0 [0, 1, 3, 4, 2, 10] Try.f5
noncomputable def G5 (E : Env) : ZFn := ⟨55, [0, 1, 3, 4, 2, 10], fun cy Y fuel =>
  (zSeq (zReg fun k => (zV 5 (vMv (.k (.bool false)))) k)
  (zSeq (zSeq (zReg fun k => (zCall (cy Y) 28 [] .push) ((zP (vNot (.l 0))) k))
  (zCond (.l 0) (zSeq (zReg fun k => (zV 5 (vMv (.k (.bool false)))) k)
  zRet) zSkip))
  (zSeq (zSeq (zReg fun k => (zP (vLenL (.v 0))) ((zP (vInt E fGtr .gtr 3 false true (.l 0) (.k (.int .i64 12)))) ((zG (.l 0) false .push (zP (vMv (.v 1)))) ((zG (.l 1) false .push (zP (vLenS (.l 0)))) ((zG (.l 2) false .push (zP (vInt E fGtr .gtr 3 false true (.l 0) (.k (.int .i64 40))))) ((zP (vPick (.l 3) (.k (.bool true)) (.l 0))) k))))))
  (zCond (.l 0) (zSeq (zReg fun k => (zV 5 (vMv (.k (.bool true)))) k)
  zRet) zSkip))
  (zSeq (zReg fun k => (zCall (cy Y) 29 [(.v 2), (.v 3)] .push) ((zCall (cy Y) 30 [(.v 2), (.v 3)] .push) ((zP (vInt E fEql .eql 40 false false (.l 1) (.l 0))) ((zG (.l 0) true .push (zP (vMv (.v 1)))) ((zG (.l 1) true .push (zCall (cy Y) 31 [(.l 0)] .push)) ((zG (.l 2) true .push (zP (vMv (.v 1)))) ((zG (.l 3) true .push (zCall (cy Y) 32 [(.l 0)] .push)) ((zG (.l 4) true .push (zP (vInt E fEql .eql 40 false false (.l 2) (.l 0)))) ((zP (vPick (.l 5) (.l 0) (.k (.bool false)))) ((zG (.l 0) true .push (zP (vMv (.v 0)))) ((zG (.l 1) true .push (zP (vMv (.v 1)))) ((zG (.l 2) true .push (zCall (cy Y) 33 [(.l 1), (.l 0)] .push)) ((zG (.l 3) true .push (zP (vMv (.v 0)))) ((zG (.l 4) true .push (zP (vMv (.v 1)))) ((zG (.l 5) true .push (zCall (cy Y) 34 [(.l 1), (.l 0)] .push)) ((zG (.l 6) true .push (zCall (cy Y) 19 [(.l 3), (.l 0)] .push)) ((zP (vPick (.l 7) (.l 0) (.k (.bool false)))) ((zG (.l 0) true .push (zP (vMv (.v 0)))) ((zG (.l 1) true .push (zP (vMv (.v 1)))) ((zG (.l 2) true .push (zP (vMv (.v 4)))) ((zG (.l 3) true .push (zCall (cy Y) 35 [(.l 2), (.l 1), (.l 0)] .push)) ((zG (.l 4) true .push (zP (vMv (.v 0)))) ((zG (.l 5) true .push (zP (vMv (.v 1)))) ((zG (.l 6) true .push (zP (vMv (.v 4)))) ((zG (.l 7) true .push (zCall (cy Y) 36 [(.l 2), (.l 1), (.l 0)] .push)) ((zG (.l 8) true .push (zCall (cy Y) 19 [(.l 4), (.l 0)] .push)) ((zP (vPick (.l 9) (.l 0) (.k (.bool false)))) ((zV 5 (vMv (.l 0))) k))))))))))))))))))))))))))))
  zRet)))), [.tmp (.v 5)]⟩
theorem G5_ok (fn : Nat → Option Func) (pu : Nat → Bool) (pr : Nat → List AV → Option (Heap → Option (Eff × Acc))) : ZOk ⟨Try.tyT, fn, pu, pr⟩ npT F5 (G5 ⟨Try.tyT, fn, pu, pr⟩) := ⟨by kernel_rfl, by kernel_rfl, by kernel_rfl, fun cy Y k => by kernel_rfl⟩
noncomputable def F6 : FFn := cF LV 0 [2, 1, 12, 0, 9, 10, 3, 11, 16, 14, 15, 20, 19, 18, 17, 13, 8] Try.f6
noncomputable def G6 (E : Env) : ZFn := ⟨121, [2, 1, 12, 0, 9, 10, 3, 11, 16, 14, 15, 20, 19, 18, 17, 13, 8], fun cy Y fuel =>
  (zSeq (zReg fun k => (zV 16 (vMv (.k (.bool false)))) k)
  (zSeq (zSeq (zReg fun k => (zCall (cy Y) 28 [] .push) ((zP (vNot (.l 0))) k))
  (zCond (.l 0) (zSeq (zReg fun k => (zV 16 (vMv (.k (.bool false)))) k)
  zRet) zSkip))
  (zSeq (zSeq (zReg fun k => (zP (vLenS (.v 0))) ((zP (vInt E fGtr .gtr 3 false true (.l 0) (.k (.int .i64 40)))) k))
  (zCond (.l 0) (zSeq (zReg fun k => (zV 16 (vMv (.k (.bool true)))) k)
  zRet) zSkip))
  (zSeq (zReg fun k => (zP (vInt E (fGen .rem) .rem 5 false true (.v 1) (.k (.int .u8 8)))) ((zP (vConv .i64 (.l 0))) ((zV 4 (vMv (.l 0))) k)))
  (zSeq (zReg fun k => (zV 5 (vMv (.k (.sl 0 [] true)))) ((zV 7 (vMv (.k (.sl 0 [] true)))) k))
  (zSeq (zSeq (zReg fun k => (zV 2 (vMv (.k (.int .i64 0)))) k)
  (zBlock 0 (zLoop fuel (zSeq (zSeq (zReg fun k => (zP (vInt E fLss .lss 3 false true (.v 2) (.k (.int .i64 8)))) k)
  (zCond (.l 0) zSkip (zExit 0)))
  (zSeq (zBlock 1 (zSeq (zReg fun k => (zP (vConv .u64 (.v 2))) ((zP (vBin E .shr 5 false false (.v 3) (.l 0))) ((zP (vInt E (fGen .and) .and 5 false true (.l 0) (.k (.int .u8 1)))) ((zP (vInt E fEql .eql 5 false true (.l 0) (.k (.int .u8 1)))) ((zG (.l 0) true .push (zP (vMv (.v 2)))) ((zG (.l 1) true .push (zP (vMv (.v 4)))) ((zG (.l 2) true .push (zP (vInt E fNeq .neq 3 false false (.l 1) (.l 0)))) ((zP (vPick (.l 3) (.l 0) (.k (.bool false)))) k))))))))
  (zCond (.l 0) (zReg fun k => (zP (vMv (.v 5))) ((zStep E (cy Y) ⟨.buildSlice 32 1 [(0, (.v 2))], .push, none, false, 2, (some 0)⟩) ((zStep E (cy Y) ⟨.append 32 32 (.l 1) (.l 0), .push, none, false, 3, (some 1)⟩) ((zV 5 (vMv (.l 0))) k)))) zSkip)))
  (zReg fun k => (zP (vMv (.v 2))) ((zP (vInt E fAdd .add 3 false true (.l 0) (.k (.int .i64 1)))) ((zV 2 (vMv (.l 0))) k))))))))
  (zSeq (zReg fun k => (zStep E (cy Y) ⟨.append 32 32 (.k (.sl 0 [] true)) (.v 5), .push, none, false, 1, (some 0)⟩) ((zStep E (cy Y) ⟨.buildSlice 32 1 [(0, (.v 4))], .push, none, false, 3, (some 1)⟩) ((zStep E (cy Y) ⟨.append 32 32 (.l 1) (.l 0), .push, none, false, 4, (some 2)⟩) ((zV 7 (vMv (.l 0))) k))))
  (zSeq (zSeq (zReg fun k => k)
  (zCond (.v 6) (zReg fun k => (zStep E (cy Y) ⟨.buildSlice 32 1 [(0, (.v 4))], .push, none, false, 1, (some 0)⟩) ((zStep E (cy Y) ⟨.append 32 32 (.l 0) (.v 5), .push, none, false, 3, (some 1)⟩) ((zV 7 (vMv (.l 0))) k))) zSkip))
  (zSeq (zReg fun k => (zCall (cy Y) 33 [(.v 5), (.v 0)] .push) ((zCall (cy Y) 33 [(.v 7), (.v 0)] .push) ((zV 15 (vMv (.l 1))) ((zV 9 (vMv (.l 0))) k))))
  (zSeq (zReg fun k => (zV 10 (vMv (.k (.sl 0 [] true)))) k)
  (zSeq (zSeq (zReg fun k => (zV 8 (vMv (.k (.int .i64 0)))) k)
  (zBlock 2 (zLoop fuel (zSeq (zSeq (zReg fun k => (zP (vLenL (.v 9))) ((zP (vInt E fLss .lss 3 false false (.v 8) (.l 0))) k))
  (zCond (.l 0) zSkip (zExit 2)))
  (zSeq (zBlock 3 (zSeq (zReg fun k => (zP (vIndexAddr 1 (.v 9) (.v 8))) ((zL 1 false (.l 0)) ((zP (vInt E fNeq .neq 3 false false (.l 0) (.v 4))) k)))
  (zCond (.l 0) (zReg fun k => (zP (vMv (.v 10))) ((zP (vIndexAddr 1 (.v 9) (.v 8))) ((zL 1 false (.l 0)) ((zStep E (cy Y) ⟨.buildSlice 32 1 [(0, (.l 0))], .push, none, false, 5, (some 0)⟩) ((zStep E (cy Y) ⟨.append 32 32 (.l 3) (.l 0), .push, none, false, 6, (some 1)⟩) ((zV 10 (vMv (.l 0))) k)))))) zSkip)))
  (zReg fun k => (zP (vMv (.v 8))) ((zP (vInt E fAdd .add 3 false true (.l 0) (.k (.int .i64 1)))) ((zV 8 (vMv (.l 0))) k))))))))
  (zSeq (zReg fun k => (zV 14 (vMv (.k (.int .i64 0)))) k)
  (zSeq (zReg fun k => (zCall (cy Y) 35 [(.v 5), (.v 0), (.k (.int .i64 2))] .push) ((zCall (cy Y) 35 [(.v 7), (.v 0), (.k (.int .i64 2))] .push) ((zV 13 (vMv (.l 1))) ((zV 12 (vMv (.l 0))) k))))
  (zSeq (zSeq (zReg fun k => (zV 11 (vMv (.k (.int .i64 0)))) k)
  (zBlock 4 (zLoop fuel (zSeq (zSeq (zReg fun k => (zP (vLenL (.v 12))) ((zP (vInt E fLss .lss 3 false false (.v 11) (.l 0))) k))
  (zCond (.l 0) zSkip (zExit 4)))
  (zSeq (zBlock 5 (zSeq (zReg fun k => (zP (vIndexAddr 1 (.v 12) (.v 11))) ((zL 1 false (.l 0)) ((zCall (cy Y) 37 [(.v 13), (.l 0)] .push) ((zP (vNot (.l 0))) k))))
  (zCond (.l 0) (zReg fun k => (zP (vMv (.v 14))) ((zP (vInt E fAdd .add 3 false true (.l 0) (.k (.int .i64 1)))) ((zV 14 (vMv (.l 0))) k))) zSkip)))
  (zReg fun k => (zP (vMv (.v 11))) ((zP (vInt E fAdd .add 3 false true (.l 0) (.k (.int .i64 1)))) ((zV 11 (vMv (.l 0))) k))))))))
  (zSeq (zReg fun k => (zCall (cy Y) 19 [(.v 15), (.v 10)] .push) ((zG (.l 0) true .push (zP (vMv (.v 9)))) ((zG (.l 1) true .push (zP (vLenL (.l 0)))) ((zG (.l 2) true .push (zP (vMv (.v 5)))) ((zG (.l 3) true .push (zP (vLenL (.l 0)))) ((zG (.l 4) true .push (zP (vInt E fAdd .add 3 false true (.l 0) (.k (.int .i64 1))))) ((zG (.l 5) true .push (zP (vInt E fEql .eql 3 false false (.l 3) (.l 0)))) ((zP (vPick (.l 6) (.l 0) (.k (.bool false)))) ((zG (.l 0) true .push (zP (vMv (.v 14)))) ((zG (.l 1) true .push (zP (vInt E (fGen .leq) .leq 3 false true (.l 0) (.k (.int .i64 1))))) ((zP (vPick (.l 2) (.l 0) (.k (.bool false)))) ((zP (vPick (.l 0) (.k (.bool true)) (.k (.bool false)))) ((zV 16 (vMv (.l 0))) k)))))))))))))
  zRet))))))))))))))), [.tmp (.v 16)]⟩
theorem G6_ok (fn : Nat → Option Func) (pu : Nat → Bool) (pr : Nat → List AV → Option (Heap → Option (Eff × Acc))) : ZOk ⟨Try.tyT, fn, pu, pr⟩ npT F6 (G6 ⟨Try.tyT, fn, pu, pr⟩) := ⟨by kernel_rfl, by kernel_rfl, by kernel_rfl, fun cy Y k => by kernel_rfl⟩
noncomputable def F7 : FFn := cF LV 0 [1, 8, 0, 7, 9, 10, 2, 11, 12, 13, 6] Try.f7
noncomputable def G7 (E : Env) : ZFn := ⟨98, [1, 8, 0, 7, 9, 10, 2, 11, 12, 13, 6], fun cy Y fuel =>
  (zSeq (zReg fun k => (zV 10 (vMv (.k (.bool false)))) k)
  (zSeq (zSeq (zReg fun k => (zCall (cy Y) 28 [] .push) ((zP (vNot (.l 0))) k))
  (zCond (.l 0) (zSeq (zReg fun k => (zV 10 (vMv (.k (.bool false)))) k)
  zRet) zSkip))
  (zSeq (zSeq (zReg fun k => (zP (vLenS (.v 0))) ((zP (vInt E fGtr .gtr 3 false true (.l 0) (.k (.int .i64 40)))) k))
  (zCond (.l 0) (zSeq (zReg fun k => (zV 10 (vMv (.k (.bool true)))) k)
  zRet) zSkip))
  (zSeq (zReg fun k => (zV 3 (vMv (.k (.sl 0 [] true)))) k)
  (zSeq (zSeq (zReg fun k => (zV 1 (vMv (.k (.int .i64 0)))) k)
  (zBlock 0 (zLoop fuel (zSeq (zSeq (zReg fun k => (zP (vInt E fLss .lss 3 false true (.v 1) (.k (.int .i64 8)))) k)
  (zCond (.l 0) zSkip (zExit 0)))
  (zSeq (zBlock 1 (zSeq (zReg fun k => (zP (vConv .u64 (.v 1))) ((zP (vBin E .shr 5 false false (.v 2) (.l 0))) ((zP (vInt E (fGen .and) .and 5 false true (.l 0) (.k (.int .u8 1)))) ((zP (vInt E fEql .eql 5 false true (.l 0) (.k (.int .u8 1)))) k))))
  (zCond (.l 0) (zReg fun k => (zP (vMv (.v 3))) ((zStep E (cy Y) ⟨.buildSlice 32 1 [(0, (.v 1))], .push, none, false, 2, (some 0)⟩) ((zStep E (cy Y) ⟨.append 32 32 (.l 1) (.l 0), .push, none, false, 3, (some 1)⟩) ((zV 3 (vMv (.l 0))) k)))) zSkip)))
  (zReg fun k => (zP (vMv (.v 1))) ((zP (vInt E fAdd .add 3 false true (.l 0) (.k (.int .i64 1)))) ((zV 1 (vMv (.l 0))) k))))))))
  (zSeq (zReg fun k => (zStep E (cy Y) ⟨.append 32 32 (.k (.sl 0 [] true)) (.v 3), .push, none, false, 1, (some 0)⟩) ((zStep E (cy Y) ⟨.append 32 32 (.l 0) (.v 3), .push, none, false, 3, (some 1)⟩) ((zCall (cy Y) 33 [(.l 0), (.v 0)] .push) ((zV 4 (vMv (.l 0))) k))))
  (zSeq (zSeq (zReg fun k => (zP (vLenL (.v 4))) ((zP (vLenL (.v 3))) ((zP (vInt E fNeq .neq 3 false false (.l 1) (.l 0))) k)))
  (zCond (.l 0) (zSeq (zReg fun k => (zV 10 (vMv (.k (.bool false)))) k)
  zRet) zSkip))
  (zSeq (zSeq (zReg fun k => (zV 5 (vMv (.k (.int .i64 0)))) k)
  (zBlock 2 (zLoop fuel (zSeq (zSeq (zReg fun k => (zP (vLenL (.v 3))) ((zP (vInt E fLss .lss 3 false false (.v 5) (.l 0))) k))
  (zCond (.l 0) zSkip (zExit 2)))
  (zSeq (zBlock 3 (zSeq (zReg fun k => (zP (vIndexAddr 1 (.v 3) (.v 5))) ((zL 1 false (.l 0)) ((zCall (cy Y) 37 [(.v 4), (.l 0)] .push) ((zP (vNot (.l 0))) k))))
  (zCond (.l 0) (zSeq (zReg fun k => (zV 10 (vMv (.k (.bool false)))) k)
  zRet) zSkip)))
  (zReg fun k => (zP (vMv (.v 5))) ((zP (vInt E fAdd .add 3 false true (.l 0) (.k (.int .i64 1)))) ((zV 5 (vMv (.l 0))) k))))))))
  (zSeq (zReg fun k => (zP (vInt E (fGen .rem) .rem 5 false true (.v 6) (.k (.int .u8 10)))) ((zP (vConv .i64 (.l 0))) ((zV 7 (vMv (.l 0))) k)))
  (zSeq (zReg fun k => (zCall (cy Y) 35 [(.v 3), (.v 0), (.v 7)] .push) ((zP (vInt E fAdd .add 3 false true (.v 7) (.k (.int .i64 1)))) ((zCall (cy Y) 35 [(.v 3), (.v 0), (.l 0)] .push) ((zV 8 (vMv (.l 2))) ((zV 9 (vMv (.l 0))) k)))))
  (zSeq (zReg fun k => (zP (vLenL (.v 8))) ((zP (vLenL (.v 3))) ((zStep E (cy Y) ⟨.most false [(.v 7), (.l 0)], .push, none, false, 5, none⟩) ((zP (vInt E fEql .eql 3 false false (.l 2) (.l 0))) ((zG (.l 0) true .push (zP (vMv (.v 9)))) ((zG (.l 1) true .push (zP (vLenL (.l 0)))) ((zG (.l 2) true .push (zP (vMv (.v 8)))) ((zG (.l 3) true .push (zP (vLenL (.l 0)))) ((zG (.l 4) true .push (zP (vInt E (fGen .geq) .geq 3 false false (.l 2) (.l 0)))) ((zP (vPick (.l 5) (.l 0) (.k (.bool false)))) ((zG (.l 0) true .push (zP (vMv (.v 8)))) ((zG (.l 1) true .push (zP (vMv (.v 9)))) ((zG (.l 2) true .push (zP (vMv (.v 8)))) ((zG (.l 3) true .push (zP (vLenL (.l 0)))) ((zG (.l 4) true .push (zStep E (cy Y) ⟨.slice 32 (.l 2) none (some (.l 0)) none, .push, none, false, 19, none⟩)) ((zG (.l 5) true .push (zCall (cy Y) 19 [(.l 4), (.l 0)] .push)) ((zP (vPick (.l 6) (.l 0) (.k (.bool false)))) ((zG (.l 0) true .push (zP (vMv (.v 3)))) ((zG (.l 1) true .push (zP (vMv (.v 0)))) ((zG (.l 2) true .push (zCall (cy Y) 35 [(.l 1), (.l 0), (.k (.int .i64 (-1)))] .push)) ((zG (.l 3) true .push (zP (vLenL (.l 0)))) ((zG (.l 4) true .push (zP (vInt E fEql .eql 3 false true (.l 0) (.k (.int .i64 0))))) ((zP (vPick (.l 5) (.l 0) (.k (.bool false)))) ((zV 10 (vMv (.l 0))) k))))))))))))))))))))))))
  zRet))))))))))), [.tmp (.v 10)]⟩
theorem G7_ok (fn : Nat → Option Func) (pu : Nat → Bool) (pr : Nat → List AV → Option (Heap → Option (Eff × Acc))) : ZOk ⟨Try.tyT, fn, pu, pr⟩ npT F7 (G7 ⟨Try.tyT, fn, pu, pr⟩) := ⟨by kernel_rfl, by kernel_rfl, by kernel_rfl, fun cy Y k => by kernel_rfl⟩
noncomputable def F8 : FFn := cF LV 0 [0, 1, 4, 5, 3, 2, 8] Try.f8
noncomputable def G8 (E : Env) : ZFn := ⟨53, [0, 1, 4, 5, 3, 2, 8], fun cy Y fuel =>
  (zSeq (zReg fun k => (zStep E (cy Y) ⟨.box 25 (.v 0), (.var 2), none, false, 0, (some 0)⟩) ((zStep E (cy Y) ⟨.box 25 (.v 1), (.var 3), none, false, 1, (some 1)⟩) ((zV 6 (vMv (.k (.bool false)))) k)))
  (zSeq (zSeq (zReg fun k => (zCall (cy Y) 38 [] .push) ((zP (vNot (.l 0))) k))
  (zCond (.l 0) (zSeq (zReg fun k => (zV 6 (vMv (.k (.bool false)))) k)
  zRet) zSkip))
  (zSeq (zSeq (zReg fun k => (zL 2 true (.v 2)) ((zCall (cy Y) 11 [(.l 0)] .push) ((zP (vNot (.l 0))) ((zG (.l 0) false .push (zL 2 true (.v 3))) ((zG (.l 1) false .push (zCall (cy Y) 11 [(.l 0)] .push)) ((zG (.l 2) false .push (zP (vNot (.l 0)))) ((zP (vPick (.l 3) (.k (.bool true)) (.l 0))) ((zG (.l 0) false .push (zP (vMv (.v 4)))) ((zG (.l 1) false .push (zP (vLenS (.l 0)))) ((zG (.l 2) false .push (zP (vInt E fGtr .gtr 3 false true (.l 0) (.k (.int .i64 40))))) ((zP (vPick (.l 3) (.k (.bool true)) (.l 0))) k)))))))))))
  (zCond (.l 0) (zSeq (zReg fun k => (zV 6 (vMv (.k (.bool true)))) k)
  zRet) zSkip))
  (zSeq (zDreg 8 fun n0 k => (zLD B0 0 2 true (.v 2)) ((zCallD (cy Y) B0 2 39 [(.l 0), (.v 4)] .push) ((zLD B0 3 2 true (.v 2)) ((zCallD (cy Y) B0 5 40 [(.l 0), (.v 4)] .push) ((zCallD (cy Y) B0 6 19 [(.l 2), (.l 0)] .push) ((zGD (.l 0) true .push (zLD B0 8 2 true (.v 2))) ((zGD (.l 1) true .push (zPD (vMv (.v 5)))) ((zGD (.l 2) true .push (zPD (vMv (.v 4)))) ((zGD (.l 3) true .push (zCallD (cy Y) B0 11 41 [(.l 2), (.l 1), (.l 0)] .push)) ((zGD (.l 4) true .push (zLD B0 12 2 true (.v 2))) ((zGD (.l 5) true .push (zPD (vMv (.v 5)))) ((zGD (.l 6) true .push (zPD (vMv (.v 4)))) ((zGD (.l 7) true .push (zCallD (cy Y) B0 15 42 [(.l 2), (.l 1), (.l 0)] .push)) ((zGD (.l 8) true .push (zPD (vInt E fEql .eql 4 false false (.l 4) (.l 0)))) ((zPD (vPick (.l 9) (.l 0) (.k (.bool false)))) ((zGD (.l 0) true .push (zLD B0 19 2 true (.v 2))) ((zGD (.l 1) true .push (zLD B0 20 2 true (.v 3))) ((zGD (.l 2) true .push (zPD (vMv (.v 4)))) ((zGD (.l 3) true .push (zCallD (cy Y) B0 22 43 [(.l 2), (.l 1), (.l 0)] .push)) ((zGD (.l 4) true .push (zLD B0 23 2 true (.v 2))) ((zGD (.l 5) true .push (zLD B0 24 2 true (.v 3))) ((zGD (.l 6) true .push (zPD (vMv (.v 4)))) ((zGD (.l 7) true .push (zCallD (cy Y) B0 26 44 [(.l 2), (.l 1), (.l 0)] .push)) ((zGD (.l 8) true .push (zCallD (cy Y) B0 27 19 [(.l 4), (.l 0)] .push)) ((zPD (vPick (.l 9) (.l 0) (.k (.bool false)))) ((zVD 6 (vMv (.l 0))) k))))))))))))))))))))))))))
  zRet)))), [.tmp (.v 6)]⟩
theorem G8_ok (fn : Nat → Option Func) (pu : Nat → Bool) (pr : Nat → List AV → Option (Heap → Option (Eff × Acc))) : ZOk ⟨Try.tyT, fn, pu, pr⟩ npT F8 (G8 ⟨Try.tyT, fn, pu, pr⟩) := ⟨by kernel_rfl, by kernel_rfl, by kernel_rfl, fun cy Y k => by kernel_rfl⟩
noncomputable def F11 : FFn := cF LV 0 [0, 3, 1, 4, 5, 6, 2] Try.f11
noncomputable def G11 (E : Env) : ZFn := ⟨105, [0, 3, 1, 4, 5, 6, 2], fun cy Y fuel =>
  (zSeq (zReg fun k => (zStep E (cy Y) ⟨.box 25 (.v 0), (.var 2), none, false, 0, (some 0)⟩) ((zV 6 (vMv (.k (.bool false)))) k))
  (zSeq (zSeq (zReg fun k => (zV 1 (vMv (.k (.int .i64 0)))) k)
  (zBlock 0 (zLoop fuel (zSeq (zSeq (zReg fun k => (zP (vFieldAddr 0 (.v 2))) ((zL 1 false (.l 0)) ((zP (vLenL (.l 0))) ((zP (vInt E fLss .lss 3 false false (.v 1) (.l 0))) k))))
  (zCond (.l 0) zSkip (zExit 0)))
  (zSeq (zBlock 1 (zSeq (zReg fun k => (zP (vFieldAddr 0 (.v 2))) ((zL 1 false (.l 0)) ((zP (vIndexAddr 2 (.l 0) (.v 1))) ((zL 2 true (.l 0)) ((zStep E (cy Y) ⟨.alloc 55, (.var 3), none, false, 5, (some 0)⟩) ((zStep E (cy Y) ⟨.store 55 (.v 3) (.l 0), .none, none, false, 6, none⟩) k))))))
  (zSeq (zDreg 0 fun n0 k => (zPD (vFieldAddr 0 (.v 3))) ((zLD B1 1 1 false (.l 0)) ((zPD (vInt E fLss .lss 3 false true (.l 0) (.k (.int .i64 0)))) ((zGD (.l 0) false .push (zPD (vFieldAddr 0 (.v 3)))) ((zGD (.l 1) false .push (zLD B1 5 1 false (.l 0))) ((zGD (.l 2) false .push (zPD (vInt E (fGen .geq) .geq 3 false true (.l 0) (.k (.int .i64 4))))) ((zPD (vPick (.l 3) (.k (.bool true)) (.l 0))) ((zGD (.l 0) false .push (zPD (vFieldAddr 1 (.v 3)))) ((zGD (.l 1) false .push (zLD B1 10 1 false (.l 0))) ((zGD (.l 2) false .push (zPD (vInt E fEql .eql 40 false true (.l 0) (.k (.int .u64 0))))) ((zPD (vPick (.l 3) (.k (.bool true)) (.l 0))) ((zGD (.l 0) false .push (zPD (vMv (.v 1)))) ((zGD (.l 1) false .push (zPD (vInt E fGtr .gtr 3 false true (.l 0) (.k (.int .i64 0))))) ((zGD (.l 2) false .push (zPD (vMv (.l 0)))) ((zGD (.l 0) true .push (zPD (vFieldAddr 0 (.v 2)))) ((zGD (.l 1) true .push (zLD B1 18 1 false (.l 0))) ((zGD (.l 2) true .push (zPD (vMv (.v 1)))) ((zGD (.l 3) true .push (zPD (vInt E fSub .sub 3 false true (.l 0) (.k (.int .i64 1))))) ((zGD (.l 4) true .push (zPD (vIndexAddr 2 (.l 2) (.l 0)))) ((zGD (.l 5) true .push (zPD (vFieldAddr 0 (.l 0)))) ((zGD (.l 6) true .push (zLD B1 23 1 false (.l 0))) ((zGD (.l 7) true .push (zPD (vFieldAddr 0 (.v 3)))) ((zGD (.l 8) true .push (zLD B1 25 1 false (.l 0))) ((zGD (.l 9) true .push (zPD (vInt E (fGen .geq) .geq 3 false false (.l 2) (.l 0)))) ((zGD (.l 13) false .push (zPD (vPick (.l 10) (.l 0) (.k (.bool false))))) ((zPD (vPick (.l 14) (.k (.bool true)) (.l 0))) k))))))))))))))))))))))))))
  (zCond (.l 0) (zSeq (zReg fun k => (zV 6 (vMv (.k (.bool false)))) k)
  zRet) zSkip))))
  (zReg fun k => (zP (vMv (.v 1))) ((zP (vInt E fAdd .add 3 false true (.l 0) (.k (.int .i64 1)))) ((zV 1 (vMv (.l 0))) k))))))))
  (zSeq (zSeq (zReg fun k => (zV 4 (vMv (.k (.int .i64 0)))) k)
  (zBlock 2 (zLoop fuel (zSeq (zSeq (zReg fun k => (zP (vFieldAddr 1 (.v 2))) ((zL 1 false (.l 0)) ((zP (vLenL (.l 0))) ((zP (vInt E fLss .lss 3 false false (.v 4) (.l 0))) k))))
  (zCond (.l 0) zSkip (zExit 2)))
  (zSeq (zBlock 3 (zSeq (zReg fun k => (zP (vFieldAddr 1 (.v 2))) ((zL 1 false (.l 0)) ((zP (vIndexAddr 3 (.l 0) (.v 4))) ((zL 3 true (.l 0)) ((zStep E (cy Y) ⟨.alloc 59, (.var 5), none, false, 5, (some 0)⟩) ((zStep E (cy Y) ⟨.store 59 (.v 5) (.l 0), .none, none, false, 6, none⟩) k))))))
  (zSeq (zDreg 0 fun n0 k => (zPD (vFieldAddr 0 (.v 5))) ((zLD B2 1 1 false (.l 0)) ((zPD (vLenS (.l 0))) ((zPD (vInt E fLss .lss 3 false true (.l 0) (.k (.int .i64 1)))) ((zGD (.l 0) false .push (zPD (vFieldAddr 0 (.v 5)))) ((zGD (.l 1) false .push (zLD B2 6 1 false (.l 0))) ((zGD (.l 2) false .push (zPD (vLenS (.l 0)))) ((zGD (.l 3) false .push (zPD (vInt E fGtr .gtr 3 false true (.l 0) (.k (.int .i64 8))))) ((zPD (vPick (.l 4) (.k (.bool true)) (.l 0))) ((zGD (.l 0) false .push (zPD (vFieldAddr 1 (.v 5)))) ((zGD (.l 1) false .push (zLD B2 12 1 false (.l 0))) ((zGD (.l 2) false .push (zPD (vInt E fEql .eql 40 false true (.l 0) (.k (.int .u64 0))))) ((zPD (vPick (.l 3) (.k (.bool true)) (.l 0))) ((zGD (.l 0) false .push (zPD (vFieldAddr 2 (.v 5)))) ((zGD (.l 1) false .push (zLD B2 17 1 false (.l 0))) ((zGD (.l 2) false .push (zPD (vInt E fLss .lss 40 false true (.l 0) (.k (.int .u64 1))))) ((zPD (vPick (.l 3) (.k (.bool true)) (.l 0))) ((zGD (.l 0) false .push (zPD (vFieldAddr 2 (.v 5)))) ((zGD (.l 1) false .push (zLD B2 22 1 false (.l 0))) ((zGD (.l 2) false .push (zPD (vInt E fGtr .gtr 40 false true (.l 0) (.k (.int .u64 3))))) ((zPD (vPick (.l 3) (.k (.bool true)) (.l 0))) ((zGD (.l 0) false .push (zPD (vMv (.v 4)))) ((zGD (.l 1) false .push (zPD (vInt E fGtr .gtr 3 false true (.l 0) (.k (.int .i64 0))))) ((zGD (.l 2) false .push (zPD (vMv (.l 0)))) ((zGD (.l 0) true .push (zPD (vFieldAddr 1 (.v 2)))) ((zGD (.l 1) true .push (zLD B2 30 1 false (.l 0))) ((zGD (.l 2) true .push (zPD (vMv (.v 4)))) ((zGD (.l 3) true .push (zPD (vInt E fSub .sub 3 false true (.l 0) (.k (.int .i64 1))))) ((zGD (.l 4) true .push (zPD (vIndexAddr 3 (.l 2) (.l 0)))) ((zGD (.l 5) true .push (zPD (vFieldAddr 0 (.l 0)))) ((zGD (.l 6) true .push (zLD B2 35 1 false (.l 0))) ((zGD (.l 7) true .push (zPD (vFieldAddr 0 (.v 5)))) ((zGD (.l 8) true .push (zLD B2 37 1 false (.l 0))) ((zGD (.l 9) true .push (zPD (vInt E (fGen .geq) .geq 9 false false (.l 2) (.l 0)))) ((zGD (.l 13) false .push (zPD (vPick (.l 10) (.l 0) (.k (.bool false))))) ((zPD (vPick (.l 14) (.k (.bool true)) (.l 0))) k))))))))))))))))))))))))))))))))))))
  (zCond (.l 0) (zSeq (zReg fun k => (zV 6 (vMv (.k (.bool false)))) k)
  zRet) zSkip))))
  (zReg fun k => (zP (vMv (.v 4))) ((zP (vInt E fAdd .add 3 false true (.l 0) (.k (.int .i64 1)))) ((zV 4 (vMv (.l 0))) k))))))))
  (zSeq (zReg fun k => (zP (vFieldAddr 1 (.v 2))) ((zL 1 false (.l 0)) ((zP (vLenL (.l 0))) ((zP (vInt E (fGen .leq) .leq 3 false true (.l 0) (.k (.int .i64 40)))) ((zV 6 (vMv (.l 0))) k)))))
  zRet)))), [.tmp (.v 6)]⟩
theorem G11_ok (fn : Nat → Option Func) (pu : Nat → Bool) (pr : Nat → List AV → Option (Heap → Option (Eff × Acc))) : ZOk ⟨Try.tyT, fn, pu, pr⟩ npT F11 (G11 ⟨Try.tyT, fn, pu, pr⟩) := ⟨by kernel_rfl, by kernel_rfl, by kernel_rfl, fun cy Y k => by kernel_rfl⟩
noncomputable def F13 : FFn := cF LV 0 [0, 1, 2, 3, 5, 6, 4] Try.f13
noncomputable def G13 (E : Env) : ZFn := ⟨59, [0, 1, 2, 3, 5, 6, 4], fun cy Y fuel =>
  (zSeq (zReg fun k => (zStep E (cy Y) ⟨.box 25 (.v 0), (.var 2), none, false, 0, (some 0)⟩) ((zStep E (cy Y) ⟨.box 25 (.v 1), (.var 3), none, false, 1, (some 1)⟩) ((zV 6 (vMv (.k (.bool false)))) k)))
  (zSeq (zSeq (zReg fun k => (zP (vFieldAddr 0 (.v 2))) ((zL 1 false (.l 0)) ((zP (vLenL (.l 0))) ((zP (vFieldAddr 0 (.v 3))) ((zL 1 false (.l 0)) ((zP (vLenL (.l 0))) ((zP (vInt E fNeq .neq 3 false false (.l 3) (.l 0))) ((zG (.l 0) false .push (zP (vFieldAddr 1 (.v 2)))) ((zG (.l 1) false .push (zL 1 false (.l 0))) ((zG (.l 2) false .push (zP (vLenL (.l 0)))) ((zG (.l 3) false .push (zP (vFieldAddr 1 (.v 3)))) ((zG (.l 4) false .push (zL 1 false (.l 0))) ((zG (.l 5) false .push (zP (vLenL (.l 0)))) ((zG (.l 6) false .push (zP (vInt E fNeq .neq 3 false false (.l 3) (.l 0)))) ((zP (vPick (.l 7) (.k (.bool true)) (.l 0))) k)))))))))))))))
  (zCond (.l 0) (zSeq (zReg fun k => (zV 6 (vMv (.k (.bool false)))) k)
  zRet) zSkip))
  (zSeq (zSeq (zReg fun k => (zV 4 (vMv (.k (.int .i64 0)))) k)
  (zBlock 0 (zLoop fuel (zSeq (zSeq (zReg fun k => (zP (vFieldAddr 0 (.v 2))) ((zL 1 false (.l 0)) ((zP (vLenL (.l 0))) ((zP (vInt E fLss .lss 3 false false (.v 4) (.l 0))) k))))
  (zCond (.l 0) zSkip (zExit 0)))
  (zSeq (zBlock 1 (zSeq (zDreg 0 fun n0 k => (zPD (vFieldAddr 0 (.v 2))) ((zLD B3 1 1 false (.l 0)) ((zPD (vIndexAddr 2 (.l 0) (.v 4))) ((zLD B3 4 2 true (.l 0)) ((zPD (vFieldAddr 0 (.v 3))) ((zLD B3 6 1 false (.l 0)) ((zPD (vIndexAddr 2 (.l 0) (.v 4))) ((zLD B3 9 2 true (.l 0)) ((zPD (vInt E fNeq .neq 55 false false (.l 4) (.l 0))) k)))))))))
  (zCond (.l 0) (zSeq (zReg fun k => (zV 6 (vMv (.k (.bool false)))) k)
  zRet) zSkip)))
  (zReg fun k => (zP (vMv (.v 4))) ((zP (vInt E fAdd .add 3 false true (.l 0) (.k (.int .i64 1)))) ((zV 4 (vMv (.l 0))) k))))))))
  (zSeq (zSeq (zReg fun k => (zV 5 (vMv (.k (.int .i64 0)))) k)
  (zBlock 2 (zLoop fuel (zSeq (zSeq (zReg fun k => (zP (vFieldAddr 1 (.v 2))) ((zL 1 false (.l 0)) ((zP (vLenL (.l 0))) ((zP (vInt E fLss .lss 3 false false (.v 5) (.l 0))) k))))
  (zCond (.l 0) zSkip (zExit 2)))
  (zSeq (zBlock 3 (zSeq (zDreg 0 fun n0 k => (zPD (vFieldAddr 1 (.v 2))) ((zLD B3 1 1 false (.l 0)) ((zPD (vIndexAddr 3 (.l 0) (.v 5))) ((zLD B3 4 3 true (.l 0)) ((zPD (vFieldAddr 1 (.v 3))) ((zLD B3 6 1 false (.l 0)) ((zPD (vIndexAddr 3 (.l 0) (.v 5))) ((zLD B3 9 3 true (.l 0)) ((zPD (vInt E fNeq .neq 59 false false (.l 4) (.l 0))) k)))))))))
  (zCond (.l 0) (zSeq (zReg fun k => (zV 6 (vMv (.k (.bool false)))) k)
  zRet) zSkip)))
  (zReg fun k => (zP (vMv (.v 5))) ((zP (vInt E fAdd .add 3 false true (.l 0) (.k (.int .i64 1)))) ((zV 5 (vMv (.l 0))) k))))))))
  (zSeq (zReg fun k => (zV 6 (vMv (.k (.bool true)))) k)
  zRet))))), [.tmp (.v 6)]⟩
theorem G13_ok (fn : Nat → Option Func) (pu : Nat → Bool) (pr : Nat → List AV → Option (Heap → Option (Eff × Acc))) : ZOk ⟨Try.tyT, fn, pu, pr⟩ npT F13 (G13 ⟨Try.tyT, fn, pu, pr⟩) := ⟨by kernel_rfl, by kernel_rfl, by kernel_rfl, fun cy Y k => by kernel_rfl⟩
noncomputable def F15 : FFn := cF LV 0 [4, 0, 3, 2] Try.f15
noncomputable def G15 (E : Env) : ZFn := ⟨21, [4, 0, 3, 2], fun cy Y fuel =>
  (zSeq (zReg fun k => (zStep E (cy Y) ⟨.alloc 25, (.var 3), none, false, 0, (some 0)⟩) k)
  (zSeq (zReg fun k => (zStep E (cy Y) ⟨.build 25 [], .push, none, false, 0, none⟩) ((zStep E (cy Y) ⟨.alloc 25, (.var 2), none, false, 1, (some 0)⟩) ((zStep E (cy Y) ⟨.store 25 (.v 2) (.l 0), .none, none, false, 2, none⟩) k)))
  (zSeq (zSeq (zReg fun k => (zV 0 (vMv (.k (.int .i64 0)))) k)
  (zBlock 0 (zLoop fuel (zSeq (zSeq (zReg fun k => (zStep E (cy Y) ⟨.most false [(.v 1), (.k (.int .i64 4))], .push, none, false, 2, none⟩) ((zStep E (cy Y) ⟨.most true [(.k (.int .i64 1)), (.l 0)], .push, none, false, 3, none⟩) ((zP (vInt E fLss .lss 3 false false (.v 0) (.l 0))) k)))
  (zCond (.l 0) zSkip (zExit 0)))
  (zSeq (zBlock 1 (zReg fun k => (zP (vFieldAddr 0 (.v 2))) ((zL 1 false (.l 0)) ((zStep E (cy Y) ⟨.build 55 [(0, (.v 0)), (1, (.k (.int .u64 1)))], .push, none, false, 3, none⟩) ((zStep E (cy Y) ⟨.buildSlice 22 1 [(0, (.l 0))], .push, none, false, 4, (some 0)⟩) ((zStep E (cy Y) ⟨.append 22 22 (.l 2) (.l 0), .push, none, false, 5, (some 1)⟩) ((zP (vFieldAddr 0 (.v 2))) ((zStep E (cy Y) ⟨.store 22 (.l 0) (.l 1), .none, none, false, 7, none⟩) k))))))))
  (zReg fun k => (zP (vMv (.v 0))) ((zP (vInt E fAdd .add 3 false true (.l 0) (.k (.int .i64 1)))) ((zV 0 (vMv (.l 0))) k))))))))
  (zSeq (zReg fun k => (zL 2 true (.v 2)) ((zStep E (cy Y) ⟨.store 25 (.v 3) (.l 0), .none, none, false, 1, none⟩) k))
  zRet)))), [.cell (.v 3) 25]⟩
theorem G15_ok (fn : Nat → Option Func) (pu : Nat → Bool) (pr : Nat → List AV → Option (Heap → Option (Eff × Acc))) : ZOk ⟨Try.tyT, fn, pu, pr⟩ npT F15 (G15 ⟨Try.tyT, fn, pu, pr⟩) := ⟨by kernel_rfl, by kernel_rfl, by kernel_rfl, fun cy Y k => by kernel_rfl⟩
noncomputable def F19 : FFn := cF LV 0 [0, 1, 5, 4] Try.f19
noncomputable def G19 (E : Env) : ZFn := ⟨26, [0, 1, 5, 4], fun cy Y fuel =>
  (zSeq (zReg fun k => (zV 3 (vMv (.k (.bool false)))) k)
  (zSeq (zSeq (zReg fun k => (zP (vLenL (.v 0))) ((zP (vLenL (.v 1))) ((zP (vInt E fNeq .neq 3 false false (.l 1) (.l 0))) k)))
  (zCond (.l 0) (zSeq (zReg fun k => (zV 3 (vMv (.k (.bool false)))) k)
  zRet) zSkip))
  (zSeq (zSeq (zReg fun k => (zV 2 (vMv (.k (.int .i64 0)))) k)
  (zBlock 0 (zLoop fuel (zSeq (zSeq (zReg fun k => (zP (vLenL (.v 0))) ((zP (vInt E fLss .lss 3 false false (.v 2) (.l 0))) k))
  (zCond (.l 0) zSkip (zExit 0)))
  (zSeq (zBlock 1 (zSeq (zDreg 0 fun n0 k => (zPD (vIndexAddr 1 (.v 0) (.v 2))) ((zLD B4 3 1 false (.l 0)) ((zPD (vIndexAddr 1 (.v 1) (.v 2))) ((zLD B4 7 1 false (.l 0)) ((zPD (vInt E fNeq .neq 3 false false (.l 2) (.l 0))) k)))))
  (zCond (.l 0) (zSeq (zReg fun k => (zV 3 (vMv (.k (.bool false)))) k)
  zRet) zSkip)))
  (zReg fun k => (zP (vMv (.v 2))) ((zP (vInt E fAdd .add 3 false true (.l 0) (.k (.int .i64 1)))) ((zV 2 (vMv (.l 0))) k))))))))
  (zSeq (zReg fun k => (zV 3 (vMv (.k (.bool true)))) k)
  zRet)))), [.tmp (.v 3)]⟩
theorem G19_ok (fn : Nat → Option Func) (pu : Nat → Bool) (pr : Nat → List AV → Option (Heap → Option (Eff × Acc))) : ZOk ⟨Try.tyT, fn, pu, pr⟩ npT F19 (G19 ⟨Try.tyT, fn, pu, pr⟩) := ⟨by kernel_rfl, by kernel_rfl, by kernel_rfl, fun cy Y k => by kernel_rfl⟩
noncomputable def F20 : FFn := cF LV 0 [0, 1, 9, 8, 7, 5, 3, 2] Try.f20
noncomputable def G20 (E : Env) : ZFn := ⟨24, [0, 1, 9, 8, 7, 5, 3, 2], fun cy Y fuel =>
  (zSeq (zReg fun k => (zStep E (cy Y) ⟨.box 25 (.v 0), (.var 1), none, false, 0, (some 0)⟩) ((zV 7 (vMv (.k (.sl 0 [] true)))) k))
  (zSeq (zReg fun k => (zV 6 (vMv (.k (.sl 0 [] true)))) k)
  (zSeq (zSeq (zReg fun k => (zP (vFieldAddr 0 (.v 1))) ((zDstW (.var 4) (wLoad 1 false (.l 0))) ((zV 3 (vLenL (.v 4))) ((zV 2 (vMv (.k (.int .i64 0)))) k))))
  (zBlock 0 (zLoop fuel (zSeq (zReg fun k => (zP (vInt E fLss .lss 3 false false (.v 2) (.v 3))) k)
  (zSeq (zCond (.l 0) zSkip (zExit 0))
  (zSeq (zBlock 1 (zSeq (zReg fun k => (zP (vIndexAddr 2 (.v 4) (.v 2))) ((zL 2 true (.l 0)) ((zStep E (cy Y) ⟨.alloc 55, (.var 5), none, false, 2, (some 0)⟩) ((zStep E (cy Y) ⟨.store 55 (.v 5) (.l 0), .none, none, false, 3, none⟩) k))))
  (zSeq (zReg fun k => (zP (vFieldAddr 1 (.v 5))) ((zL 1 false (.l 0)) ((zP (vInt E (fGen .rem) .rem 40 false true (.l 0) (.k (.int .u64 2)))) ((zP (vInt E fEql .eql 40 false true (.l 0) (.k (.int .u64 1)))) k))))
  (zCond (.l 0) (zReg fun k => (zP (vMv (.v 6))) ((zP (vFieldAddr 0 (.v 5))) ((zL 1 false (.l 0)) ((zStep E (cy Y) ⟨.buildSlice 32 1 [(0, (.l 0))], .push, none, false, 3, (some 0)⟩) ((zStep E (cy Y) ⟨.append 32 32 (.l 3) (.l 0), .push, none, false, 4, (some 1)⟩) ((zV 6 (vMv (.l 0))) k)))))) zSkip))))
  (zReg fun k => (zP (vInt E fAdd .add 3 false true (.v 2) (.k (.int .i64 1)))) ((zV 2 (vMv (.l 0))) k))))))))
  (zSeq (zReg fun k => (zV 7 (vMv (.v 6))) k)
  zRet)))), [.tmp (.v 7)]⟩
theorem G20_ok (fn : Nat → Option Func) (pu : Nat → Bool) (pr : Nat → List AV → Option (Heap → Option (Eff × Acc))) : ZOk ⟨Try.tyT, fn, pu, pr⟩ npT F20 (G20 ⟨Try.tyT, fn, pu, pr⟩) := ⟨by kernel_rfl, by kernel_rfl, by kernel_rfl, fun cy Y k => by kernel_rfl⟩
noncomputable def F21 : FFn := cF LV 0 [0, 4, 1, 3, 2] Try.f21
noncomputable def G21 (E : Env) : ZFn := ⟨30, [0, 4, 1, 3, 2], fun cy Y fuel =>
  (zSeq (zReg fun k => (zStep E (cy Y) ⟨.box 25 (.v 0), (.var 2), none, false, 0, (some 0)⟩) ((zV 4 (vMv (.k (.sl 0 [] true)))) k))
  (zSeq (zReg fun k => (zV 3 (vMv (.k (.sl 0 [] true)))) k)
  (zSeq (zSeq (zReg fun k => (zV 1 (vMv (.k (.int .i64 0)))) k)
  (zBlock 0 (zLoop fuel (zSeq (zSeq (zReg fun k => (zP (vFieldAddr 0 (.v 2))) ((zL 1 false (.l 0)) ((zP (vLenL (.l 0))) ((zP (vInt E fLss .lss 3 false false (.v 1) (.l 0))) k))))
  (zCond (.l 0) zSkip (zExit 0)))
  (zSeq (zBlock 1 (zSeq (zReg fun k => (zP (vFieldAddr 0 (.v 2))) ((zL 1 false (.l 0)) ((zP (vIndexAddr 2 (.l 0) (.v 1))) ((zP (vFieldAddr 1 (.l 0))) ((zL 1 false (.l 0)) ((zP (vInt E (fGen .rem) .rem 40 false true (.l 0) (.k (.int .u64 2)))) ((zP (vInt E fEql .eql 40 false true (.l 0) (.k (.int .u64 1)))) k)))))))
  (zCond (.l 0) (zReg fun k => (zP (vMv (.v 3))) ((zP (vFieldAddr 0 (.v 2))) ((zL 1 false (.l 0)) ((zP (vIndexAddr 2 (.l 0) (.v 1))) ((zP (vFieldAddr 0 (.l 0))) ((zL 1 false (.l 0)) ((zStep E (cy Y) ⟨.buildSlice 32 1 [(0, (.l 0))], .push, none, false, 7, (some 0)⟩) ((zStep E (cy Y) ⟨.append 32 32 (.l 6) (.l 0), .push, none, false, 8, (some 1)⟩) ((zV 3 (vMv (.l 0))) k))))))))) zSkip)))
  (zReg fun k => (zP (vMv (.v 1))) ((zP (vInt E fAdd .add 3 false true (.l 0) (.k (.int .i64 1)))) ((zV 1 (vMv (.l 0))) k))))))))
  (zSeq (zReg fun k => (zV 4 (vMv (.v 3))) k)
  zRet)))), [.tmp (.v 4)]⟩
theorem G21_ok (fn : Nat → Option Func) (pu : Nat → Bool) (pr : Nat → List AV → Option (Heap → Option (Eff × Acc))) : ZOk ⟨Try.tyT, fn, pu, pr⟩ npT F21 (G21 ⟨Try.tyT, fn, pu, pr⟩) := ⟨by kernel_rfl, by kernel_rfl, by kernel_rfl, fun cy Y k => by kernel_rfl⟩
noncomputable def F24 : FFn := cF LV 0 [0, 2, 1, 6, 5, 4] Try.f24
noncomputable def G24 (E : Env) : ZFn := ⟨18, [0, 2, 1, 6, 5, 4], fun cy Y fuel =>
  (zSeq (zReg fun k => (zStep E (cy Y) ⟨.box 25 (.v 0), (.var 1), none, false, 0, (some 0)⟩) ((zV 5 (vMv (.k (.int .i64 0)))) k))
  (zSeq (zReg fun k => (zL 2 true (.v 1)) ((zCall (cy Y) 60 [(.l 0), (.v 2)] .push) ((zP (vExtract 0 (.l 0))) ((zP (vExtract 1 (.l 1))) ((zStep E (cy Y) ⟨.alloc 59, (.var 4), none, false, 6, (some 1)⟩) ((zStep E (cy Y) ⟨.store 59 (.v 4) (.l 1), .none, none, false, 7, none⟩) ((zV 3 (vMv (.l 0))) k)))))))
  (zSeq (zSeq (zReg fun k => (zP (vNot (.v 3))) k)
  (zCond (.l 0) (zSeq (zReg fun k => (zV 5 (vMv (.k (.int .i64 2)))) k)
  zRet) zSkip))
  (zSeq (zReg fun k => (zP (vFieldAddr 2 (.v 4))) ((zL 1 false (.l 0)) ((zP (vConv .i64 (.l 0))) ((zV 5 (vMv (.l 0))) k))))
  zRet)))), [.tmp (.v 5)]⟩
theorem G24_ok (fn : Nat → Option Func) (pu : Nat → Bool) (pr : Nat → List AV → Option (Heap → Option (Eff × Acc))) : ZOk ⟨Try.tyT, fn, pu, pr⟩ npT F24 (G24 ⟨Try.tyT, fn, pu, pr⟩) := ⟨by kernel_rfl, by kernel_rfl, by kernel_rfl, fun cy Y k => by kernel_rfl⟩
noncomputable def F25 : FFn := cF LV 0 [0, 5, 2, 1, 4] Try.f25
noncomputable def G25 (E : Env) : ZFn := ⟨28, [0, 5, 2, 1, 4], fun cy Y fuel =>
  (zSeq (zReg fun k => (zStep E (cy Y) ⟨.box 25 (.v 0), (.var 2), none, false, 0, (some 0)⟩) ((zV 4 (vMv (.k (.int .i64 0)))) k))
  (zSeq (zSeq (zReg fun k => (zV 1 (vMv (.k (.int .i64 0)))) k)
  (zBlock 0 (zLoop fuel (zSeq (zSeq (zReg fun k => (zP (vFieldAddr 1 (.v 2))) ((zL 1 false (.l 0)) ((zP (vLenL (.l 0))) ((zP (vInt E fLss .lss 3 false false (.v 1) (.l 0))) k))))
  (zCond (.l 0) zSkip (zExit 0)))
  (zSeq (zBlock 1 (zSeq (zReg fun k => (zP (vFieldAddr 1 (.v 2))) ((zL 1 false (.l 0)) ((zP (vIndexAddr 3 (.l 0) (.v 1))) ((zP (vFieldAddr 0 (.l 0))) ((zL 1 false (.l 0)) ((zP (vInt E fEql .eql 9 false false (.l 0) (.v 3))) k))))))
  (zCond (.l 0) (zSeq (zReg fun k => (zP (vFieldAddr 1 (.v 2))) ((zL 1 false (.l 0)) ((zP (vIndexAddr 3 (.l 0) (.v 1))) ((zP (vFieldAddr 2 (.l 0))) ((zL 1 false (.l 0)) ((zP (vConv .i64 (.l 0))) ((zV 4 (vMv (.l 0))) k)))))))
  zRet) zSkip)))
  (zReg fun k => (zP (vMv (.v 1))) ((zP (vInt E fAdd .add 3 false true (.l 0) (.k (.int .i64 1)))) ((zV 1 (vMv (.l 0))) k))))))))
  (zSeq (zReg fun k => (zV 4 (vMv (.k (.int .i64 2)))) k)
  zRet))), [.tmp (.v 4)]⟩
theorem G25_ok (fn : Nat → Option Func) (pu : Nat → Bool) (pr : Nat → List AV → Option (Heap → Option (Eff × Acc))) : ZOk ⟨Try.tyT, fn, pu, pr⟩ npT F25 (G25 ⟨Try.tyT, fn, pu, pr⟩) := ⟨by kernel_rfl, by kernel_rfl, by kernel_rfl, fun cy Y k => by kernel_rfl⟩
noncomputable def F28 : FFn := cF LV 0 [1, 0] Try.f28
noncomputable def G28 (E : Env) : ZFn := ⟨34, [1, 0], fun cy Y fuel =>
  (zSeq (zReg fun k => (zV 1 (vMv (.k (.bool false)))) k)
  (zSeq (zReg fun k => (zStep E (cy Y) ⟨.buildSlice 32 3 [(0, (.k (.int .i64 0))), (1, (.k (.int .i64 1))), (2, (.k (.int .i64 2)))], .push, none, false, 0, (some 0)⟩) ((zCall (cy Y) 33 [(.l 0), (.k (.str [109, 49]))] .push) ((zV 0 (vMv (.l 0))) k)))
  (zSeq (zReg fun k => (zP (vLenL (.v 0))) ((zP (vInt E fEql .eql 3 false true (.l 0) (.k (.int .i64 3)))) ((zG (.l 0) true .push (zStep E (cy Y) ⟨.buildSlice 32 3 [(0, (.k (.int .i64 0))), (1, (.k (.int .i64 1))), (2, (.k (.int .i64 2)))], .push, none, false, 4, (some 0)⟩)) ((zG (.l 1) true .push (zCall (cy Y) 35 [(.l 0), (.k (.str [109, 49])), (.k (.int .i64 2))] .push)) ((zG (.l 2) true .push (zP (vLenL (.l 0)))) ((zG (.l 3) true .push (zP (vInt E fEql .eql 3 false true (.l 0) (.k (.int .i64 2))))) ((zP (vPick (.l 4) (.l 0) (.k (.bool false)))) ((zG (.l 0) true .push (zStep E (cy Y) ⟨.buildSlice 32 1 [(0, (.k (.int .i64 0)))], .push, none, false, 10, (some 2)⟩)) ((zG (.l 1) true .push (zCall (cy Y) 35 [(.l 0), (.k (.str [109, 49])), (.k (.int .i64 2))] .push)) ((zG (.l 2) true .push (zP (vLenL (.l 0)))) ((zG (.l 3) true .push (zP (vInt E fEql .eql 3 false true (.l 0) (.k (.int .i64 1))))) ((zP (vPick (.l 4) (.l 0) (.k (.bool false)))) ((zG (.l 0) true .push (zCall (cy Y) 29 [(.k (.int .i64 1)), (.k (.int .i64 2))] .push)) ((zG (.l 1) true .push (zCall (cy Y) 30 [(.k (.int .i64 1)), (.k (.int .i64 2))] .push)) ((zG (.l 2) true .push (zP (vInt E fEql .eql 40 false false (.l 1) (.l 0)))) ((zP (vPick (.l 3) (.l 0) (.k (.bool false)))) ((zG (.l 0) true .push (zCall (cy Y) 31 [(.k (.str [109, 49]))] .push)) ((zG (.l 1) true .push (zCall (cy Y) 32 [(.k (.str [109, 49]))] .push)) ((zG (.l 2) true .push (zP (vInt E fEql .eql 40 false false (.l 1) (.l 0)))) ((zP (vPick (.l 3) (.l 0) (.k (.bool false)))) ((zG (.l 0) true .push (zCall (cy Y) 33 [(.k (.sl 0 [] true)), (.k (.str [109, 49]))] .push)) ((zG (.l 1) true .push (zP (vLenL (.l 0)))) ((zG (.l 2) true .push (zP (vInt E fEql .eql 3 false true (.l 0) (.k (.int .i64 0))))) ((zP (vPick (.l 3) (.l 0) (.k (.bool false)))) ((zV 1 (vMv (.l 0))) k)))))))))))))))))))))))))
  zRet))), [.tmp (.v 1)]⟩
theorem G28_ok (fn : Nat → Option Func) (pu : Nat → Bool) (pr : Nat → List AV → Option (Heap → Option (Eff × Acc))) : ZOk ⟨Try.tyT, fn, pu, pr⟩ npT F28 (G28 ⟨Try.tyT, fn, pu, pr⟩) := ⟨by kernel_rfl, by kernel_rfl, by kernel_rfl, fun cy Y k => by kernel_rfl⟩
noncomputable def F29 : FFn := cF LV 0 [0, 1, 4] Try.f29
noncomputable def G29 (E : Env) : ZFn := ⟨13, [0, 1, 4], fun cy Y fuel =>
  (zSeq (zReg fun k => (zV 2 (vMv (.k (.int .u64 0)))) k)
  (zSeq (zReg fun k => (zCall (cy Y) 65 [(.v 0)] .push) ((zP (vInt E fAdd .add 9 true false (.k (.str [110, 111, 100, 101])) (.l 0))) ((zCall (cy Y) 65 [(.v 1)] .push) ((zP (vInt E fAdd .add 9 false false (.l 1) (.l 0))) ((zCall (cy Y) 64 [(.l 0)] .push) ((zCall (cy Y) 63 [(.l 0)] .push) ((zV 2 (vMv (.l 0))) k)))))))
  zRet)), [.tmp (.v 2)]⟩
theorem G29_ok (fn : Nat → Option Func) (pu : Nat → Bool) (pr : Nat → List AV → Option (Heap → Option (Eff × Acc))) : ZOk ⟨Try.tyT, fn, pu, pr⟩ npT F29 (G29 ⟨Try.tyT, fn, pu, pr⟩) := ⟨by kernel_rfl, by kernel_rfl, by kernel_rfl, fun cy Y k => by kernel_rfl⟩
noncomputable def F30 : FFn := cF LV 0 [0, 1, 4] Try.f30
noncomputable def G30 (E : Env) : ZFn := ⟨18, [0, 1, 4], fun cy Y fuel =>
  (zSeq (zReg fun k => (zV 2 (vMv (.k (.int .u64 0)))) k)
  (zSeq (zReg fun k => (zStep E (cy Y) ⟨.most true [(.k (.int .i64 0)), (.v 0)], .push, none, false, 1, none⟩) ((zP (vConv .u64 (.l 0))) ((zCall (cy Y) 68 [(.l 0)] .push) ((zP (vInt E fAdd .add 9 true false (.k (.str [110, 111, 100, 101])) (.l 0))) ((zStep E (cy Y) ⟨.most true [(.k (.int .i64 0)), (.v 1)], .push, none, false, 6, none⟩) ((zP (vConv .u64 (.l 0))) ((zCall (cy Y) 68 [(.l 0)] .push) ((zP (vInt E fAdd .add 9 false false (.l 3) (.l 0))) ((zCall (cy Y) 67 [(.l 0)] .push) ((zCall (cy Y) 66 [(.l 0)] .push) ((zCall (cy Y) 66 [(.l 0)] .push) ((zV 2 (vMv (.l 0))) k))))))))))))
  zRet)), [.tmp (.v 2)]⟩
theorem G30_ok (fn : Nat → Option Func) (pu : Nat → Bool) (pr : Nat → List AV → Option (Heap → Option (Eff × Acc))) : ZOk ⟨Try.tyT, fn, pu, pr⟩ npT F30 (G30 ⟨Try.tyT, fn, pu, pr⟩) := ⟨by kernel_rfl, by kernel_rfl, by kernel_rfl, fun cy Y k => by kernel_rfl⟩
noncomputable def F31 : FFn := cF LV 0 [0, 2] Try.f31
noncomputable def G31 (E : Env) : ZFn := ⟨7, [0, 2], fun cy Y fuel =>
  (zSeq (zReg fun k => (zV 1 (vMv (.k (.int .u64 0)))) k)
  (zSeq (zReg fun k => (zP (vInt E fAdd .add 9 true false (.k (.str [107, 101, 121])) (.v 0))) ((zCall (cy Y) 64 [(.l 0)] .push) ((zCall (cy Y) 63 [(.l 0)] .push) ((zV 1 (vMv (.l 0))) k))))
  zRet)), [.tmp (.v 1)]⟩
theorem G31_ok (fn : Nat → Option Func) (pu : Nat → Bool) (pr : Nat → List AV → Option (Heap → Option (Eff × Acc))) : ZOk ⟨Try.tyT, fn, pu, pr⟩ npT F31 (G31 ⟨Try.tyT, fn, pu, pr⟩) := ⟨by kernel_rfl, by kernel_rfl, by kernel_rfl, fun cy Y k => by kernel_rfl⟩
noncomputable def F32 : FFn := cF LV 0 [0, 2] Try.f32
noncomputable def G32 (E : Env) : ZFn := ⟨8, [0, 2], fun cy Y fuel =>
  (zSeq (zReg fun k => (zV 1 (vMv (.k (.int .u64 0)))) k)
  (zSeq (zReg fun k => (zP (vInt E fAdd .add 9 true false (.k (.str [107, 101, 121])) (.v 0))) ((zCall (cy Y) 67 [(.l 0)] .push) ((zCall (cy Y) 66 [(.l 0)] .push) ((zCall (cy Y) 66 [(.l 0)] .push) ((zV 1 (vMv (.l 0))) k)))))
  zRet)), [.tmp (.v 1)]⟩
theorem G32_ok (fn : Nat → Option Func) (pu : Nat → Bool) (pr : Nat → List AV → Option (Heap → Option (Eff × Acc))) : ZOk ⟨Try.tyT, fn, pu, pr⟩ npT F32 (G32 ⟨Try.tyT, fn, pu, pr⟩) := ⟨by kernel_rfl, by kernel_rfl, by kernel_rfl, fun cy Y k => by kernel_rfl⟩
noncomputable def F33 : FFn := cF LV 0 [0, 1, 5, 4] Try.f33
noncomputable def G33 (E : Env) : ZFn := ⟨18, [0, 1, 5, 4], fun cy Y fuel =>
  (zSeq (zReg fun k => (zV 3 (vMv (.k (.sl 0 [] true)))) k)
  (zSeq (zReg fun k => (zStep E (cy Y) ⟨.alloc 32, (.var 2), none, false, 0, (some 0)⟩) k)
  (zSeq (zSeq (zReg fun k => (zCall (cy Y) 31 [(.v 1)] .push) ((zCall (cy Y) 70 [(.v 0), (.l 0)] .push) ((zCall (cy Y) 69 [(.l 0)] .push) k)))
  (zBlock 0 (zRange cy Y (.l 0) 0 [none, (some (.v 2)), none] [none, none, none, none, none, (some (.v 2)), none, none, none, none, none, none, none, none, none, none, none, none] [12] (codeAt [1, 1, 0, 1, 0, 0] (bodyOf Try.f33)) (codeAt [1, 1, 0, 1, 0, 1] (bodyOf Try.f33)))))
  (zSeq (zReg fun k => (zL 1 false (.v 2)) ((zV 3 (vMv (.l 0))) k))
  zRet)))), [.tmp (.v 3)]⟩
theorem G33_ok (fn : Nat → Option Func) (pu : Nat → Bool) (pr : Nat → List AV → Option (Heap → Option (Eff × Acc))) : ZOk ⟨Try.tyT, fn, pu, pr⟩ npT F33 (G33 ⟨Try.tyT, fn, pu, pr⟩) := ⟨by kernel_rfl, by kernel_rfl, by kernel_rfl, fun cy Y k => by kernel_rfl⟩
noncomputable def F34 : FFn := cF LV 0 [1, 7, 0, 8, 6, 10, 5, 9, 12, 11, 4] Try.f34
noncomputable def G34 (E : Env) : ZFn := ⟨108, [1, 7, 0, 8, 6, 10, 5, 9, 12, 11, 4], fun cy Y fuel =>
  (zSeq (zReg fun k => (zV 10 (vMv (.k (.sl 0 [] true)))) k)
  (zSeq (zReg fun k => (zV 6 (vMv (.k (.sl 0 [] true)))) k)
  (zSeq (zReg fun k => (zCall (cy Y) 32 [(.v 0)] .push) ((zV 4 (vMv (.l 0))) k))
  (zSeq (zSeq (zReg fun k => (zV 1 (vMv (.k (.int .i64 0)))) k)
  (zBlock 0 (zLoop fuel (zSeq (zSeq (zReg fun k => (zP (vLenL (.v 2))) ((zP (vInt E fLss .lss 3 false false (.v 1) (.l 0))) k))
  (zCond (.l 0) zSkip (zExit 0)))
  (zSeq (zBlock 1 (zSeq (zReg fun k => (zV 3 (vMv (.k (.int .i64 0)))) k)
  (zBlock 2 (zLoop fuel (zSeq (zSeq (zReg fun k => (zP (vInt E fLss .lss 3 false true (.v 3) (.k (.int .i64 4)))) k)
  (zCond (.l 0) zSkip (zExit 2)))
  (zSeq (zBlock 3 (zSeq (zDreg 2 fun n0 k => (zPD (vIndexAddr 1 (.v 2) (.v 1))) ((zLD B5 3 1 false (.l 0)) ((zCallD (cy Y) B5 5 30 [(.l 0), (.v 3)] .push) ((zPD (vInt E fSub .sub 40 false false (.l 0) (.v 4))) ((zPD (vIndexAddr 1 (.v 2) (.v 1))) ((zLD B5 11 1 false (.l 0)) ((zStepD E (cy Y) B5 n0 ⟨.build 85 [(0, (.l 2)), (1, (.l 0))], .push, none, false, 12, none⟩) ((zStepD E (cy Y) B5 n0 ⟨.alloc 85, (.var 7), none, false, 13, (some 1)⟩) ((zStepD E (cy Y) B5 n0 ⟨.store 85 (.v 7) (.l 0), .none, none, false, 14, none⟩) k)))))))))
  (zSeq (zReg fun k => (zV 5 (vMv (.k (.int .i64 0)))) k)
  (zSeq (zBlock 4 (zLoop fuel (zSeq (zSeq (zDreg 0 fun n0 k => (zPD (vLenL (.v 6))) ((zPD (vInt E fLss .lss 3 false false (.v 5) (.l 0))) ((zGD (.l 0) true .push (zPD (vMv (.v 6)))) ((zGD (.l 1) true .push (zPD (vMv (.v 5)))) ((zGD (.l 2) true .push (zPD (vIndexAddr 2 (.l 1) (.l 0)))) ((zGD (.l 3) true .push (zPD (vFieldAddr 0 (.l 0)))) ((zGD (.l 4) true .push (zLD B6 9 1 false (.l 0))) ((zGD (.l 5) true .push (zPD (vFieldAddr 0 (.v 7)))) ((zGD (.l 6) true .push (zLD B6 11 1 false (.l 0))) ((zGD (.l 7) true .push (zPD (vInt E fLss .lss 40 false false (.l 2) (.l 0)))) ((zGD (.l 8) true .push (zPD (vMv (.l 0)))) ((zGD (.l 0) false .push (zPD (vMv (.v 6)))) ((zGD (.l 1) false .push (zPD (vMv (.v 5)))) ((zGD (.l 2) false .push (zPD (vIndexAddr 2 (.l 1) (.l 0)))) ((zGD (.l 3) false .push (zPD (vFieldAddr 0 (.l 0)))) ((zGD (.l 4) false .push (zLD B6 18 1 false (.l 0))) ((zGD (.l 5) false .push (zPD (vFieldAddr 0 (.v 7)))) ((zGD (.l 6) false .push (zLD B6 20 1 false (.l 0))) ((zGD (.l 7) false .push (zPD (vInt E fEql .eql 40 false false (.l 2) (.l 0)))) ((zGD (.l 8) false .push (zPD (vMv (.l 0)))) ((zGD (.l 0) true .push (zPD (vMv (.v 6)))) ((zGD (.l 1) true .push (zPD (vMv (.v 5)))) ((zGD (.l 2) true .push (zPD (vIndexAddr 2 (.l 1) (.l 0)))) ((zGD (.l 3) true .push (zPD (vFieldAddr 1 (.l 0)))) ((zGD (.l 4) true .push (zLD B6 27 1 false (.l 0))) ((zGD (.l 5) true .push (zPD (vFieldAddr 1 (.v 7)))) ((zGD (.l 6) true .push (zLD B6 29 1 false (.l 0))) ((zGD (.l 7) true .push (zPD (vInt E (fGen .leq) .leq 3 false false (.l 2) (.l 0)))) ((zGD (.l 17) false .push (zPD (vPick (.l 8) (.l 0) (.k (.bool false))))) ((zGD (.l 27) true .push (zPD (vPick (.l 18) (.k (.bool true)) (.l 0)))) ((zPD (vPick (.l 28) (.l 0) (.k (.bool false)))) k)))))))))))))))))))))))))))))))
  (zCond (.l 0) zSkip (zExit 4)))
  (zBlock 5 (zReg fun k => (zP (vMv (.v 5))) ((zP (vInt E fAdd .add 3 false true (.l 0) (.k (.int .i64 1)))) ((zV 5 (vMv (.l 0))) k)))))))
  (zDreg 4 fun n0 k => (zPD (vMv (.v 6))) ((zStepD E (cy Y) B7 n0 ⟨.slice 83 (.l 0) none (some (.v 5)) none, .push, none, false, 2, none⟩) ((zStepD E (cy Y) B7 n0 ⟨.append 83 83 (.k (.sl 0 [] true)) (.l 0), .push, none, false, 3, (some 0)⟩) ((zLD B7 4 2 true (.v 7)) ((zStepD E (cy Y) B7 n0 ⟨.buildSlice 83 1 [(0, (.l 0))], .push, none, false, 5, (some 1)⟩) ((zStepD E (cy Y) B7 n0 ⟨.append 83 83 (.l 2) (.l 0), .push, none, false, 6, (some 2)⟩) ((zPD (vMv (.v 6))) ((zStepD E (cy Y) B7 n0 ⟨.slice 83 (.l 0) (some (.v 5)) none none, .push, none, false, 9, none⟩) ((zStepD E (cy Y) B7 n0 ⟨.append 83 83 (.l 2) (.l 0), .push, none, false, 10, (some 3)⟩) ((zVD 6 (vMv (.l 0))) k))))))))))))))
  (zReg fun k => (zP (vMv (.v 3))) ((zP (vInt E fAdd .add 3 false true (.l 0) (.k (.int .i64 1)))) ((zV 3 (vMv (.l 0))) k)))))))))
  (zReg fun k => (zP (vMv (.v 1))) ((zP (vInt E fAdd .add 3 false true (.l 0) (.k (.int .i64 1)))) ((zV 1 (vMv (.l 0))) k))))))))
  (zSeq (zReg fun k => (zV 9 (vMv (.k (.sl 0 [] true)))) k)
  (zSeq (zSeq (zReg fun k => (zV 8 (vMv (.k (.int .i64 0)))) k)
  (zBlock 6 (zLoop fuel (zSeq (zSeq (zReg fun k => (zP (vLenL (.v 6))) ((zP (vInt E fLss .lss 3 false false (.v 8) (.l 0))) k))
  (zCond (.l 0) zSkip (zExit 6)))
  (zSeq (zBlock 7 (zSeq (zReg fun k => (zP (vIndexAddr 2 (.v 6) (.v 8))) ((zP (vFieldAddr 1 (.l 0))) ((zL 1 false (.l 0)) ((zCall (cy Y) 37 [(.v 9), (.l 0)] .push) ((zP (vNot (.l 0))) k)))))
  (zCond (.l 0) (zReg fun k => (zP (vMv (.v 9))) ((zP (vIndexAddr 2 (.v 6) (.v 8))) ((zP (vFieldAddr 1 (.l 0))) ((zL 1 false (.l 0)) ((zStep E (cy Y) ⟨.buildSlice 32 1 [(0, (.l 0))], .push, none, false, 6, (some 0)⟩) ((zStep E (cy Y) ⟨.append 32 32 (.l 4) (.l 0), .push, none, false, 7, (some 1)⟩) ((zV 9 (vMv (.l 0))) k))))))) zSkip)))
  (zReg fun k => (zP (vMv (.v 8))) ((zP (vInt E fAdd .add 3 false true (.l 0) (.k (.int .i64 1)))) ((zV 8 (vMv (.l 0))) k))))))))
  (zSeq (zReg fun k => (zV 10 (vMv (.v 9))) k)
  zRet))))))), [.tmp (.v 10)]⟩
theorem G34_ok (fn : Nat → Option Func) (pu : Nat → Bool) (pr : Nat → List AV → Option (Heap → Option (Eff × Acc))) : ZOk ⟨Try.tyT, fn, pu, pr⟩ npT F34 (G34 ⟨Try.tyT, fn, pu, pr⟩) := ⟨by kernel_rfl, by kernel_rfl, by kernel_rfl, fun cy Y k => by kernel_rfl⟩
noncomputable def F35 : FFn := cF LV 0 [0, 1, 7, 2, 6] Try.f35
noncomputable def G35 (E : Env) : ZFn := ⟨18, [0, 1, 7, 2, 6], fun cy Y fuel =>
  (zSeq (zReg fun k => (zV 4 (vMv (.k (.sl 0 [] true)))) k)
  (zSeq (zReg fun k => (zCall (cy Y) 33 [(.v 0), (.v 1)] .push) ((zV 2 (vMv (.l 0))) k))
  (zSeq (zReg fun k => (zStep E (cy Y) ⟨.most true [(.v 3), (.k (.int .i64 0))], .push, none, false, 2, none⟩) ((zP (vLenL (.v 2))) ((zStep E (cy Y) ⟨.most false [(.l 1), (.l 0)], .push, none, false, 5, none⟩) ((zStep E (cy Y) ⟨.slice 32 (.v 2) none (some (.l 0)) none, .push, none, false, 6, none⟩) ((zV 4 (vMv (.l 0))) k)))))
  zRet))), [.tmp (.v 4)]⟩
theorem G35_ok (fn : Nat → Option Func) (pu : Nat → Bool) (pr : Nat → List AV → Option (Heap → Option (Eff × Acc))) : ZOk ⟨Try.tyT, fn, pu, pr⟩ npT F35 (G35 ⟨Try.tyT, fn, pu, pr⟩) := ⟨by kernel_rfl, by kernel_rfl, by kernel_rfl, fun cy Y k => by kernel_rfl⟩
noncomputable def F36 : FFn := cF LV 0 [0, 1, 7, 2, 6] Try.f36
noncomputable def G36 (E : Env) : ZFn := ⟨18, [0, 1, 7, 2, 6], fun cy Y fuel =>
  (zSeq (zReg fun k => (zV 4 (vMv (.k (.sl 0 [] true)))) k)
  (zSeq (zReg fun k => (zCall (cy Y) 34 [(.v 0), (.v 1)] .push) ((zV 2 (vMv (.l 0))) k))
  (zSeq (zReg fun k => (zP (vLenL (.v 2))) ((zStep E (cy Y) ⟨.most false [(.v 3), (.l 0)], .push, none, false, 4, none⟩) ((zStep E (cy Y) ⟨.most true [(.k (.int .i64 0)), (.l 0)], .push, none, false, 5, none⟩) ((zStep E (cy Y) ⟨.slice 32 (.v 2) none (some (.l 0)) none, .push, none, false, 6, none⟩) ((zV 4 (vMv (.l 0))) k)))))
  zRet))), [.tmp (.v 4)]⟩
theorem G36_ok (fn : Nat → Option Func) (pu : Nat → Bool) (pr : Nat → List AV → Option (Heap → Option (Eff × Acc))) : ZOk ⟨Try.tyT, fn, pu, pr⟩ npT F36 (G36 ⟨Try.tyT, fn, pu, pr⟩) := ⟨by kernel_rfl, by kernel_rfl, by kernel_rfl, fun cy Y k => by kernel_rfl⟩
noncomputable def F37 : FFn := cF LV 0 [5, 0, 1, 4] Try.f37
noncomputable def G37 (E : Env) : ZFn := ⟨18, [5, 0, 1, 4], fun cy Y fuel =>
  (zSeq (zReg fun k => (zV 3 (vMv (.k (.bool false)))) k)
  (zSeq (zSeq (zReg fun k => (zV 0 (vMv (.k (.int .i64 0)))) k)
  (zBlock 0 (zLoop fuel (zSeq (zSeq (zReg fun k => (zP (vLenL (.v 1))) ((zP (vInt E fLss .lss 3 false false (.v 0) (.l 0))) k))
  (zCond (.l 0) zSkip (zExit 0)))
  (zSeq (zBlock 1 (zSeq (zReg fun k => (zP (vIndexAddr 1 (.v 1) (.v 0))) ((zL 1 false (.l 0)) ((zP (vInt E fEql .eql 3 false false (.l 0) (.v 2))) k)))
  (zCond (.l 0) (zSeq (zReg fun k => (zV 3 (vMv (.k (.bool true)))) k)
  zRet) zSkip)))
  (zReg fun k => (zP (vMv (.v 0))) ((zP (vInt E fAdd .add 3 false true (.l 0) (.k (.int .i64 1)))) ((zV 0 (vMv (.l 0))) k))))))))
  (zSeq (zReg fun k => (zV 3 (vMv (.k (.bool false)))) k)
  zRet))), [.tmp (.v 3)]⟩
theorem G37_ok (fn : Nat → Option Func) (pu : Nat → Bool) (pr : Nat → List AV → Option (Heap → Option (Eff × Acc))) : ZOk ⟨Try.tyT, fn, pu, pr⟩ npT F37 (G37 ⟨Try.tyT, fn, pu, pr⟩) := ⟨by kernel_rfl, by kernel_rfl, by kernel_rfl, fun cy Y k => by kernel_rfl⟩
noncomputable def F38 : FFn := cF LV 0 [1, 2, 0] Try.f38
noncomputable def G38 (E : Env) : ZFn := ⟨36, [1, 2, 0], fun cy Y fuel =>
  (zSeq (zReg fun k => (zV 2 (vMv (.k (.bool false)))) k)
  (zSeq (zReg fun k => (zCall (cy Y) 15 [(.k (.int .i64 3))] .push) ((zStep E (cy Y) ⟨.alloc 25, (.var 0), none, false, 1, (some 1)⟩) ((zStep E (cy Y) ⟨.store 25 (.v 0) (.l 0), .none, none, false, 2, none⟩) k)))
  (zSeq (zReg fun k => (zL 2 true (.v 0)) ((zCall (cy Y) 39 [(.l 0), (.k (.str [109, 49]))] .push) ((zV 1 (vMv (.l 0))) k)))
  (zSeq (zDreg 4 fun n0 k => (zPD (vLenL (.v 1))) ((zPD (vInt E fEql .eql 3 false true (.l 0) (.k (.int .i64 2)))) ((zGD (.l 0) true .push (zLD B8 4 2 true (.v 0))) ((zGD (.l 1) true .push (zPD (vMv (.v 1)))) ((zGD (.l 2) true .push (zPD (vIndexAddr 1 (.l 0) (.k (.int .i64 0))))) ((zGD (.l 3) true .push (zLD B8 7 1 false (.l 0))) ((zGD (.l 4) true .push (zCallD (cy Y) B8 8 41 [(.l 3), (.l 0), (.k (.str [109, 49]))] .push)) ((zPD (vPick (.l 5) (.l 0) (.k (.bool false)))) ((zGD (.l 0) true .push (zStepD E (cy Y) B8 n0 ⟨.build 25 [], .push, none, false, 11, none⟩)) ((zGD (.l 1) true .push (zCallD (cy Y) B8 12 39 [(.l 0), (.k (.str [109, 49]))] .push)) ((zGD (.l 2) true .push (zPD (vLenL (.l 0)))) ((zGD (.l 3) true .push (zPD (vInt E fEql .eql 3 false true (.l 0) (.k (.int .i64 0))))) ((zPD (vPick (.l 4) (.l 0) (.k (.bool false)))) ((zGD (.l 0) true .push (zLD B8 17 2 true (.v 0))) ((zGD (.l 1) true .push (zLD B8 18 2 true (.v 0))) ((zGD (.l 2) true .push (zCallD (cy Y) B8 19 43 [(.l 1), (.l 0), (.k (.str [109, 49]))] .push)) ((zGD (.l 3) true .push (zPD (vLenL (.l 0)))) ((zGD (.l 4) true .push (zPD (vInt E fEql .eql 3 false true (.l 0) (.k (.int .i64 0))))) ((zPD (vPick (.l 5) (.l 0) (.k (.bool false)))) ((zGD (.l 0) true .push (zStepD E (cy Y) B8 n0 ⟨.build 25 [], .push, none, false, 24, none⟩)) ((zGD (.l 1) true .push (zLD B8 25 2 true (.v 0))) ((zGD (.l 2) true .push (zCallD (cy Y) B8 26 43 [(.l 1), (.l 0), (.k (.str [109, 49]))] .push)) ((zGD (.l 3) true .push (zPD (vLenL (.l 0)))) ((zGD (.l 4) true .push (zPD (vInt E fEql .eql 3 false true (.l 0) (.k (.int .i64 2))))) ((zPD (vPick (.l 5) (.l 0) (.k (.bool false)))) ((zVD 2 (vMv (.l 0))) k))))))))))))))))))))))))))
  zRet)))), [.tmp (.v 2)]⟩
theorem G38_ok (fn : Nat → Option Func) (pu : Nat → Bool) (pr : Nat → List AV → Option (Heap → Option (Eff × Acc))) : ZOk ⟨Try.tyT, fn, pu, pr⟩ npT F38 (G38 ⟨Try.tyT, fn, pu, pr⟩) := ⟨by kernel_rfl, by kernel_rfl, by kernel_rfl, fun cy Y k => by kernel_rfl⟩
noncomputable def F39 : FFn := cF LV 0 [0, 2, 1, 4] Try.f39
noncomputable def G39 (E : Env) : ZFn := ⟨12, [0, 2, 1, 4], fun cy Y fuel =>
  (zSeq (zReg fun k => (zStep E (cy Y) ⟨.box 25 (.v 0), (.var 1), none, false, 0, (some 0)⟩) ((zV 3 (vMv (.k (.sl 0 [] true)))) k))
  (zSeq (zDreg 3 fun n0 k => (zLD B9 0 2 true (.v 1)) ((zCallD (cy Y) B9 1 20 [(.l 0)] .push) ((zLD B9 3 2 true (.v 1)) ((zCallD (cy Y) B9 5 24 [(.l 0), (.v 2)] .push) ((zCallD (cy Y) B9 6 35 [(.l 2), (.v 2), (.l 0)] .push) ((zVD 3 (vMv (.l 0))) k))))))
  zRet)), [.tmp (.v 3)]⟩
theorem G39_ok (fn : Nat → Option Func) (pu : Nat → Bool) (pr : Nat → List AV → Option (Heap → Option (Eff × Acc))) : ZOk ⟨Try.tyT, fn, pu, pr⟩ npT F39 (G39 ⟨Try.tyT, fn, pu, pr⟩) := ⟨by kernel_rfl, by kernel_rfl, by kernel_rfl, fun cy Y k => by kernel_rfl⟩
noncomputable def F40 : FFn := cF LV 0 [0, 2, 1, 4] Try.f40
noncomputable def G40 (E : Env) : ZFn := ⟨12, [0, 2, 1, 4], fun cy Y fuel =>
  (zSeq (zReg fun k => (zStep E (cy Y) ⟨.box 25 (.v 0), (.var 1), none, false, 0, (some 0)⟩) ((zV 3 (vMv (.k (.sl 0 [] true)))) k))
  (zSeq (zDreg 3 fun n0 k => (zLD B9 0 2 true (.v 1)) ((zCallD (cy Y) B9 1 21 [(.l 0)] .push) ((zLD B9 3 2 true (.v 1)) ((zCallD (cy Y) B9 5 25 [(.l 0), (.v 2)] .push) ((zCallD (cy Y) B9 6 36 [(.l 2), (.v 2), (.l 0)] .push) ((zVD 3 (vMv (.l 0))) k))))))
  zRet)), [.tmp (.v 3)]⟩
theorem G40_ok (fn : Nat → Option Func) (pu : Nat → Bool) (pr : Nat → List AV → Option (Heap → Option (Eff × Acc))) : ZOk ⟨Try.tyT, fn, pu, pr⟩ npT F40 (G40 ⟨Try.tyT, fn, pu, pr⟩) := ⟨by kernel_rfl, by kernel_rfl, by kernel_rfl, fun cy Y k => by kernel_rfl⟩
noncomputable def F41 : FFn := cF LV 0 [0, 3, 2, 1, 6] Try.f41
noncomputable def G41 (E : Env) : ZFn := ⟨12, [0, 3, 2, 1, 6], fun cy Y fuel =>
  (zSeq (zReg fun k => (zStep E (cy Y) ⟨.box 25 (.v 0), (.var 1), none, false, 0, (some 0)⟩) ((zV 4 (vMv (.k (.bool false)))) k))
  (zSeq (zReg fun k => (zL 2 true (.v 1)) ((zCall (cy Y) 39 [(.l 0), (.v 2)] .push) ((zCall (cy Y) 71 [(.l 0), (.v 3)] .push) ((zV 4 (vMv (.l 0))) k))))
  zRet)), [.tmp (.v 4)]⟩
theorem G41_ok (fn : Nat → Option Func) (pu : Nat → Bool) (pr : Nat → List AV → Option (Heap → Option (Eff × Acc))) : ZOk ⟨Try.tyT, fn, pu, pr⟩ npT F41 (G41 ⟨Try.tyT, fn, pu, pr⟩) := ⟨by kernel_rfl, by kernel_rfl, by kernel_rfl, fun cy Y k => by kernel_rfl⟩
noncomputable def F42 : FFn := cF LV 0 [0, 3, 2, 1, 6] Try.f42
noncomputable def G42 (E : Env) : ZFn := ⟨12, [0, 3, 2, 1, 6], fun cy Y fuel =>
  (zSeq (zReg fun k => (zStep E (cy Y) ⟨.box 25 (.v 0), (.var 1), none, false, 0, (some 0)⟩) ((zV 4 (vMv (.k (.bool false)))) k))
  (zSeq (zReg fun k => (zL 2 true (.v 1)) ((zCall (cy Y) 40 [(.l 0), (.v 2)] .push) ((zCall (cy Y) 37 [(.l 0), (.v 3)] .push) ((zV 4 (vMv (.l 0))) k))))
  zRet)), [.tmp (.v 4)]⟩
theorem G42_ok (fn : Nat → Option Func) (pu : Nat → Bool) (pr : Nat → List AV → Option (Heap → Option (Eff × Acc))) : ZOk ⟨Try.tyT, fn, pu, pr⟩ npT F42 (G42 ⟨Try.tyT, fn, pu, pr⟩) := ⟨by kernel_rfl, by kernel_rfl, by kernel_rfl, fun cy Y k => by kernel_rfl⟩
noncomputable def F43 : FFn := cF LV 0 [0, 1, 4, 2, 3, 6] Try.f43
noncomputable def G43 (E : Env) : ZFn := ⟨14, [0, 1, 4, 2, 3, 6], fun cy Y fuel =>
  (zSeq (zReg fun k => (zStep E (cy Y) ⟨.box 25 (.v 0), (.var 4), none, false, 0, (some 0)⟩) ((zStep E (cy Y) ⟨.box 25 (.v 1), (.var 2), none, false, 1, (some 1)⟩) ((zV 5 (vMv (.k (.sl 0 [] true)))) k)))
  (zSeq (zDreg 3 fun n0 k => (zLD B10 0 2 true (.v 2)) ((zCallD (cy Y) B10 2 39 [(.l 0), (.v 3)] .push) ((zLD B10 3 2 true (.v 4)) ((zCallD (cy Y) B10 5 39 [(.l 0), (.v 3)] .push) ((zCallD (cy Y) B10 6 72 [(.l 2), (.l 0)] .push) ((zVD 5 (vMv (.l 0))) k))))))
  zRet)), [.tmp (.v 5)]⟩
theorem G43_ok (fn : Nat → Option Func) (pu : Nat → Bool) (pr : Nat → List AV → Option (Heap → Option (Eff × Acc))) : ZOk ⟨Try.tyT, fn, pu, pr⟩ npT F43 (G43 ⟨Try.tyT, fn, pu, pr⟩) := ⟨by kernel_rfl, by kernel_rfl, by kernel_rfl, fun cy Y k => by kernel_rfl⟩
noncomputable def F44 : FFn := cF LV 0 [0, 1, 3, 2, 4, 10, 8, 7, 9, 6] Try.f44
noncomputable def G44 (E : Env) : ZFn := ⟨38, [0, 1, 3, 2, 4, 10, 8, 7, 9, 6], fun cy Y fuel =>
  (zSeq (zReg fun k => (zStep E (cy Y) ⟨.box 25 (.v 0), (.var 2), none, false, 0, (some 0)⟩) ((zStep E (cy Y) ⟨.box 25 (.v 1), (.var 4), none, false, 1, (some 1)⟩) ((zV 9 (vMv (.k (.sl 0 [] true)))) k)))
  (zSeq (zDreg 2 fun n0 k => (zLD B10 0 2 true (.v 2)) ((zCallD (cy Y) B10 2 40 [(.l 0), (.v 3)] .push) ((zLD B10 3 2 true (.v 4)) ((zCallD (cy Y) B10 5 40 [(.l 0), (.v 3)] .push) ((zVD 7 (vMv (.l 2))) ((zVD 6 (vMv (.l 0))) k))))))
  (zSeq (zReg fun k => (zV 8 (vMv (.k (.sl 0 [] true)))) k)
  (zSeq (zSeq (zReg fun k => (zV 5 (vMv (.k (.int .i64 0)))) k)
  (zBlock 0 (zLoop fuel (zSeq (zSeq (zReg fun k => (zP (vLenL (.v 6))) ((zP (vInt E fLss .lss 3 false false (.v 5) (.l 0))) k))
  (zCond (.l 0) zSkip (zExit 0)))
  (zSeq (zBlock 1 (zSeq (zReg fun k => (zP (vIndexAddr 1 (.v 6) (.v 5))) ((zL 1 false (.l 0)) ((zCall (cy Y) 37 [(.v 7), (.l 0)] .push) ((zP (vNot (.l 0))) k))))
  (zCond (.l 0) (zReg fun k => (zP (vMv (.v 8))) ((zP (vIndexAddr 1 (.v 6) (.v 5))) ((zL 1 false (.l 0)) ((zStep E (cy Y) ⟨.buildSlice 32 1 [(0, (.l 0))], .push, none, false, 5, (some 0)⟩) ((zStep E (cy Y) ⟨.append 32 32 (.l 3) (.l 0), .push, none, false, 6, (some 1)⟩) ((zV 8 (vMv (.l 0))) k)))))) zSkip)))
  (zReg fun k => (zP (vMv (.v 5))) ((zP (vInt E fAdd .add 3 false true (.l 0) (.k (.int .i64 1)))) ((zV 5 (vMv (.l 0))) k))))))))
  (zSeq (zReg fun k => (zV 9 (vMv (.v 8))) k)
  zRet))))), [.tmp (.v 9)]⟩
theorem G44_ok (fn : Nat → Option Func) (pu : Nat → Bool) (pr : Nat → List AV → Option (Heap → Option (Eff × Acc))) : ZOk ⟨Try.tyT, fn, pu, pr⟩ npT F44 (G44 ⟨Try.tyT, fn, pu, pr⟩) := ⟨by kernel_rfl, by kernel_rfl, by kernel_rfl, fun cy Y k => by kernel_rfl⟩
noncomputable def F50 : FFn := cF LV 0 [0, 1, 2, 3, 4] Try.f50
noncomputable def G50 (E : Env) : ZFn := ⟨10, [0, 1, 2, 3, 4], fun cy Y fuel =>
  (zSeq (zReg fun k => (zStep E (cy Y) ⟨.box 59 (.v 0), (.var 2), none, false, 0, (some 0)⟩) ((zStep E (cy Y) ⟨.box 59 (.v 1), (.var 3), none, false, 1, (some 1)⟩) ((zV 4 (vMv (.k (.int .i64 0)))) k)))
  (zSeq (zReg fun k => (zP (vFieldAddr 0 (.v 2))) ((zL 1 false (.l 0)) ((zP (vFieldAddr 0 (.v 3))) ((zL 1 false (.l 0)) ((zCall (cy Y) 77 [(.l 2), (.l 0)] .push) ((zV 4 (vMv (.l 0))) k))))))
  zRet)), [.tmp (.v 4)]⟩
theorem G50_ok (fn : Nat → Option Func) (pu : Nat → Bool) (pr : Nat → List AV → Option (Heap → Option (Eff × Acc))) : ZOk ⟨Try.tyT, fn, pu, pr⟩ npT F50 (G50 ⟨Try.tyT, fn, pu, pr⟩) := ⟨by kernel_rfl, by kernel_rfl, by kernel_rfl, fun cy Y k => by kernel_rfl⟩
noncomputable def F60 : FFn := cF LV 0 [0, 2, 1, 7, 4, 6, 5] Try.f60
noncomputable def G60 (E : Env) : ZFn := ⟨24, [0, 2, 1, 7, 4, 6, 5], fun cy Y fuel =>
  (zSeq (zReg fun k => (zStep E (cy Y) ⟨.box 25 (.v 0), (.var 1), none, false, 0, (some 0)⟩) ((zStep E (cy Y) ⟨.alloc 59, (.var 4), none, false, 1, (some 1)⟩) ((zV 6 (vMv (.k (.bool false)))) k)))
  (zSeq (zReg fun k => (zP (vFieldAddr 1 (.v 1))) ((zL 1 false (.l 0)) ((zStep E (cy Y) ⟨.build 59 [(0, (.v 2))], .push, none, false, 3, none⟩) ((zCall (cy Y) 75 [(.l 1), (.l 0), (.k (.clo 50 []))] .push) ((zP (vExtract 0 (.l 0))) ((zP (vExtract 1 (.l 1))) ((zV 5 (vMv (.l 1))) ((zV 3 (vMv (.l 0))) k))))))))
  (zSeq (zSeq (zReg fun k => (zP (vNot (.v 3))) k)
  (zCond (.l 0) (zSeq (zReg fun k => (zStep E (cy Y) ⟨.build 59 [], .push, none, false, 0, none⟩) ((zStep E (cy Y) ⟨.store 59 (.v 4) (.l 0), .none, none, false, 1, none⟩) ((zV 6 (vMv (.k (.bool false)))) k)))
  zRet) zSkip))
  (zSeq (zReg fun k => (zP (vFieldAddr 1 (.v 1))) ((zL 1 false (.l 0)) ((zP (vIndexAddr 3 (.l 0) (.v 5))) ((zL 3 true (.l 0)) ((zStep E (cy Y) ⟨.store 59 (.v 4) (.l 0), .none, none, false, 5, none⟩) ((zV 6 (vMv (.k (.bool true)))) k))))))
  zRet)))), [.cell (.v 4) 59, .tmp (.v 6)]⟩
theorem G60_ok (fn : Nat → Option Func) (pu : Nat → Bool) (pr : Nat → List AV → Option (Heap → Option (Eff × Acc))) : ZOk ⟨Try.tyT, fn, pu, pr⟩ npT F60 (G60 ⟨Try.tyT, fn, pu, pr⟩) := ⟨by kernel_rfl, by kernel_rfl, by kernel_rfl, fun cy Y k => by kernel_rfl⟩
noncomputable def F63 : FFn := cF LV 0 [3, 0, 2] Try.f63
noncomputable def G63 (E : Env) : ZFn := ⟨12, [3, 0, 2], fun cy Y fuel =>
  (zSeq (zReg fun k => (zV 2 (vMv (.k (.int .u64 0)))) k)
  (zSeq (zSeq (zReg fun k => (zV 0 (vMv (.k (.int .i64 0)))) k)
  (zBlock 0 (zLoop fuel (zSeq (zReg fun k => (zP (vInt E fLss .lss 3 false true (.v 0) (.k (.int .i64 2)))) k)
  (zSeq (zCond (.l 0) zSkip (zExit 0))
  (zSeq (zBlock 1 (zReg fun k => (zP (vMv (.v 1))) ((zP (vMv (.v 1))) ((zP (vBin E .shr 40 false true (.l 0) (.k (.int .u64 32)))) ((zP (vInt E (fGen .xor) .xor 40 false false (.l 2) (.l 0))) ((zP (vInt E (fGen .mul) .mul 40 false true (.l 0) (.k (.int .u64 11400714819323198485)))) ((zV 1 (vMv (.l 0))) k)))))))
  (zReg fun k => (zP (vInt E fAdd .add 3 false true (.v 0) (.k (.int .i64 1)))) ((zV 0 (vMv (.l 0))) k))))))))
  (zSeq (zReg fun k => (zV 2 (vMv (.v 1))) k)
  zRet))), [.tmp (.v 2)]⟩
theorem G63_ok (fn : Nat → Option Func) (pu : Nat → Bool) (pr : Nat → List AV → Option (Heap → Option (Eff × Acc))) : ZOk ⟨Try.tyT, fn, pu, pr⟩ npT F63 (G63 ⟨Try.tyT, fn, pu, pr⟩) := ⟨by kernel_rfl, by kernel_rfl, by kernel_rfl, fun cy Y k => by kernel_rfl⟩
noncomputable def F64 : FFn := cF LV 0 [0, 7, 6, 3, 4, 2] Try.f64
noncomputable def G64 (E : Env) : ZFn := ⟨19, [0, 7, 6, 3, 4, 2], fun cy Y fuel =>
  (zSeq (zReg fun k => (zV 5 (vMv (.k (.int .u64 0)))) k)
  (zSeq (zReg fun k => (zV 3 (vMv (.k (.int .u64 14695981039346656037)))) k)
  (zSeq (zSeq (zReg fun k => (zV 2 (vLenS (.v 0))) ((zV 1 (vMv (.k (.int .i64 0)))) k))
  (zBlock 0 (zLoop fuel (zSeq (zReg fun k => (zP (vInt E fLss .lss 3 false false (.v 1) (.v 2))) k)
  (zSeq (zCond (.l 0) zSkip (zExit 0))
  (zSeq (zBlock 1 (zSeq (zReg fun k => (zV 4 (vMv (.v 1))) k)
  (zReg fun k => (zP (vMv (.v 3))) ((zStep E (cy Y) ⟨.index 9 (.v 0) (.v 4), .push, none, false, 3, none⟩) ((zP (vConv .u64 (.l 0))) ((zP (vInt E (fGen .xor) .xor 40 false false (.l 2) (.l 0))) ((zP (vInt E (fGen .mul) .mul 40 false true (.l 0) (.k (.int .u64 1099511628211)))) ((zV 3 (vMv (.l 0))) k))))))))
  (zReg fun k => (zP (vInt E fAdd .add 3 false true (.v 1) (.k (.int .i64 1)))) ((zV 1 (vMv (.l 0))) k))))))))
  (zSeq (zReg fun k => (zV 5 (vMv (.v 3))) k)
  zRet)))), [.tmp (.v 5)]⟩
theorem G64_ok (fn : Nat → Option Func) (pu : Nat → Bool) (pr : Nat → List AV → Option (Heap → Option (Eff × Acc))) : ZOk ⟨Try.tyT, fn, pu, pr⟩ npT F64 (G64 ⟨Try.tyT, fn, pu, pr⟩) := ⟨by kernel_rfl, by kernel_rfl, by kernel_rfl, fun cy Y k => by kernel_rfl⟩
noncomputable def F65 : FFn := cF LV 0 [0, 2] Try.f65
noncomputable def G65 (E : Env) : ZFn := ⟨7, [0, 2], fun cy Y fuel =>
  (zSeq (zReg fun k => (zV 1 (vMv (.k (.str [])))) k)
  (zSeq (zReg fun k => (zStep E (cy Y) ⟨.most true [(.v 0), (.k (.int .i64 0))], .push, none, false, 1, none⟩) ((zP (vConv .u64 (.l 0))) ((zCall (cy Y) 81 [(.l 0)] .push) ((zV 1 (vMv (.l 0))) k))))
  zRet)), [.tmp (.v 1)]⟩
theorem G65_ok (fn : Nat → Option Func) (pu : Nat → Bool) (pr : Nat → List AV → Option (Heap → Option (Eff × Acc))) : ZOk ⟨Try.tyT, fn, pu, pr⟩ npT F65 (G65 ⟨Try.tyT, fn, pu, pr⟩) := ⟨by kernel_rfl, by kernel_rfl, by kernel_rfl, fun cy Y k => by kernel_rfl⟩
noncomputable def F66 : FFn := cF LV 0 [0, 2] Try.f66
noncomputable def G66 (E : Env) : ZFn := ⟨8, [0, 2], fun cy Y fuel =>
  (zSeq (zReg fun k => (zV 1 (vMv (.k (.int .u64 0)))) k)
  (zSeq (zReg fun k => (zP (vInt E (fGen .quo) .quo 40 false true (.v 0) (.k (.int .u64 4294967296)))) ((zP (vInt E (fGen .xor) .xor 40 false false (.v 0) (.l 0))) ((zP (vInt E (fGen .mul) .mul 40 false true (.l 0) (.k (.int .u64 11400714819323198485)))) ((zV 1 (vMv (.l 0))) k))))
  zRet)), [.tmp (.v 1)]⟩
theorem G66_ok (fn : Nat → Option Func) (pu : Nat → Bool) (pr : Nat → List AV → Option (Heap → Option (Eff × Acc))) : ZOk ⟨Try.tyT, fn, pu, pr⟩ npT F66 (G66 ⟨Try.tyT, fn, pu, pr⟩) := ⟨by kernel_rfl, by kernel_rfl, by kernel_rfl, fun cy Y k => by kernel_rfl⟩
noncomputable def F67 : FFn := cF LV 0 [4, 0, 3, 2] Try.f67
noncomputable def G67 (E : Env) : ZFn := ⟨19, [4, 0, 3, 2], fun cy Y fuel =>
  (zSeq (zReg fun k => (zV 3 (vMv (.k (.int .u64 0)))) k)
  (zSeq (zReg fun k => (zV 2 (vMv (.k (.int .u64 14695981039346656037)))) k)
  (zSeq (zSeq (zReg fun k => (zV 0 (vMv (.k (.int .i64 0)))) k)
  (zBlock 0 (zLoop fuel (zSeq (zSeq (zReg fun k => (zP (vLenS (.v 1))) ((zP (vInt E fLss .lss 3 false false (.v 0) (.l 0))) k))
  (zCond (.l 0) zSkip (zExit 0)))
  (zSeq (zBlock 1 (zReg fun k => (zP (vMv (.v 2))) ((zStep E (cy Y) ⟨.index 9 (.v 1) (.v 0), .push, none, false, 3, none⟩) ((zP (vConv .u64 (.l 0))) ((zP (vInt E (fGen .xor) .xor 40 false false (.l 2) (.l 0))) ((zP (vInt E (fGen .mul) .mul 40 false true (.l 0) (.k (.int .u64 1099511628211)))) ((zV 2 (vMv (.l 0))) k)))))))
  (zReg fun k => (zP (vMv (.v 0))) ((zP (vInt E fAdd .add 3 false true (.l 0) (.k (.int .i64 1)))) ((zV 0 (vMv (.l 0))) k))))))))
  (zSeq (zReg fun k => (zV 3 (vMv (.v 2))) k)
  zRet)))), [.tmp (.v 3)]⟩
theorem G67_ok (fn : Nat → Option Func) (pu : Nat → Bool) (pr : Nat → List AV → Option (Heap → Option (Eff × Acc))) : ZOk ⟨Try.tyT, fn, pu, pr⟩ npT F67 (G67 ⟨Try.tyT, fn, pu, pr⟩) := ⟨by kernel_rfl, by kernel_rfl, by kernel_rfl, fun cy Y k => by kernel_rfl⟩
noncomputable def F68 : FFn := cF LV 0 [0, 3, 2] Try.f68
noncomputable def G68 (E : Env) : ZFn := ⟨22, [0, 3, 2], fun cy Y fuel =>
  (zSeq (zReg fun k => (zV 2 (vMv (.k (.str [])))) k)
  (zSeq (zReg fun k => (zV 1 (vMv (.k (.str [])))) k)
  (zSeq (zBlock 0 (zLoop fuel (zSeq (zSeq (zReg fun k => (zP (vInt E (fGen .geq) .geq 40 false true (.v 0) (.k (.int .u64 128)))) k)
  (zCond (.l 0) zSkip (zExit 0)))
  (zBlock 1 (zSeq (zReg fun k => (zP (vMv (.v 1))) ((zP (vInt E (fGen .rem) .rem 40 false true (.v 0) (.k (.int .u64 128)))) ((zP (vInt E fAdd .add 40 true false (.k (.int .u64 128)) (.l 0))) ((zP (vConv .u8 (.l 0))) ((zStep E (cy Y) ⟨.buildSlice 38 1 [(0, (.l 0))], .push, none, false, 5, (some 0)⟩) ((zStep E (cy Y) ⟨.conv 38 9 (.l 0), .push, none, false, 6, none⟩) ((zP (vInt E fAdd .add 9 false false (.l 5) (.l 0))) ((zV 1 (vMv (.l 0))) k))))))))
  (zReg fun k => (zP (vMv (.v 0))) ((zP (vInt E (fGen .quo) .quo 40 false true (.l 0) (.k (.int .u64 128)))) ((zV 0 (vMv (.l 0))) k))))))))
  (zSeq (zReg fun k => (zP (vConv .u8 (.v 0))) ((zStep E (cy Y) ⟨.buildSlice 38 1 [(0, (.l 0))], .push, none, false, 3, (some 0)⟩) ((zStep E (cy Y) ⟨.conv 38 9 (.l 0), .push, none, false, 4, none⟩) ((zP (vInt E fAdd .add 9 false false (.v 1) (.l 0))) ((zV 2 (vMv (.l 0))) k)))))
  zRet)))), [.tmp (.v 2)]⟩
theorem G68_ok (fn : Nat → Option Func) (pu : Nat → Bool) (pr : Nat → List AV → Option (Heap → Option (Eff × Acc))) : ZOk ⟨Try.tyT, fn, pu, pr⟩ npT F68 (G68 ⟨Try.tyT, fn, pu, pr⟩) := ⟨by kernel_rfl, by kernel_rfl, by kernel_rfl, fun cy Y k => by kernel_rfl⟩
noncomputable def F69 : FFn := cF LV 0 [0, 1, 2] Try.f69
noncomputable def G69 (E : Env) : ZFn := ⟨4, [0, 1, 2], fun cy Y fuel =>
  (zSeq (zReg fun k => (zStep E (cy Y) ⟨.box 80 (.v 0), (.var 1), none, false, 0, (some 0)⟩) ((zV 2 (vMv (.k .nilFunc))) k))
  (zSeq (zReg fun k => (zStep E (cy Y) ⟨.mkFunc 82 [(.v 1)], .push, none, false, 0, none⟩) ((zV 2 (vMv (.l 0))) k))
  zRet)), [.tmp (.v 2)]⟩
theorem G69_ok (fn : Nat → Option Func) (pu : Nat → Bool) (pr : Nat → List AV → Option (Heap → Option (Eff × Acc))) : ZOk ⟨Try.tyT, fn, pu, pr⟩ npT F69 (G69 ⟨Try.tyT, fn, pu, pr⟩) := ⟨by kernel_rfl, by kernel_rfl, by kernel_rfl, fun cy Y k => by kernel_rfl⟩
noncomputable def F70 : FFn := cF LV 0 [1, 0, 11, 10, 9, 15, 5, 7, 8, 3, 4] Try.f70
noncomputable def G70 (E : Env) : ZFn := ⟨32, [1, 0, 11, 10, 9, 15, 5, 7, 8, 3, 4], fun cy Y fuel =>
  (zSeq (zReg fun k => (zStep E (cy Y) ⟨.box 40 (.v 0), (.var 9), none, false, 0, (some 0)⟩) ((zV 10 (vMv (.k .nilFunc))) k))
  (zSeq (zReg fun k => (zStep E (cy Y) ⟨.alloc 101, (.var 6), none, false, 0, (some 0)⟩) k)
  (zSeq (zSeq (zReg fun k => (zV 4 (vMv (.v 1))) ((zV 3 (vLenL (.v 4))) ((zV 2 (vMv (.k (.int .i64 0)))) k)))
  (zBlock 0 (zLoop fuel (zSeq (zReg fun k => (zP (vInt E fLss .lss 3 false false (.v 2) (.v 3))) k)
  (zSeq (zCond (.l 0) zSkip (zExit 0))
  (zSeq (zBlock 1 (zSeq (zReg fun k => (zP (vIndexAddr 1 (.v 4) (.v 2))) ((zL 1 false (.l 0)) ((zV 7 (vMv (.l 0))) k)))
  (zSeq (zReg fun k => (zV 5 (vMv (.k (.int .i64 0)))) k)
  (zBlock 2 (zLoop fuel (zSeq (zReg fun k => (zP (vInt E fLss .lss 3 false true (.v 5) (.k (.int .i64 4)))) k)
  (zSeq (zCond (.l 0) zSkip (zExit 2))
  (zSeq (zBlock 3 (zSeq (zReg fun k => (zV 8 (vMv (.v 5))) k)
  (zDreg 3 fun n0 k => (zLD B11 0 1 false (.v 6)) ((zCallD (cy Y) B11 3 29 [(.v 7), (.v 8)] .push) ((zStepD E (cy Y) B11 n0 ⟨.build 103 [(0, (.l 0)), (1, (.v 7))], .push, none, false, 5, none⟩) ((zStepD E (cy Y) B11 n0 ⟨.buildSlice 101 1 [(0, (.l 0))], .push, none, false, 6, (some 1)⟩) ((zStepD E (cy Y) B11 n0 ⟨.append 101 101 (.l 3) (.l 0), .push, none, false, 7, (some 2)⟩) ((zStepD E (cy Y) B11 n0 ⟨.store 101 (.v 6) (.l 0), .none, none, false, 8, none⟩) k))))))))
  (zReg fun k => (zP (vInt E fAdd .add 3 false true (.v 5) (.k (.int .i64 1)))) ((zV 5 (vMv (.l 0))) k))))))))))
  (zReg fun k => (zP (vInt E fAdd .add 3 false true (.v 2) (.k (.int .i64 1)))) ((zV 2 (vMv (.l 0))) k))))))))
  (zSeq (zReg fun k => (zL 1 false (.v 6)) ((zStep E (cy Y) ⟨.mkFunc 84 [(.v 9)], .push, none, false, 1, none⟩) ((zStep E (cy Y) ⟨.call 83 [(.l 1), (.l 0)], .push, none, false, 2, (some 0)⟩) k)))
  (zSeq (zReg fun k => (zStep E (cy Y) ⟨.mkFunc 85 [(.v 6)], .push, none, false, 0, none⟩) ((zV 10 (vMv (.l 0))) k))
  zRet))))), [.tmp (.v 10)]⟩
theorem G70_ok (fn : Nat → Option Func) (pu : Nat → Bool) (pr : Nat → List AV → Option (Heap → Option (Eff × Acc))) : ZOk ⟨Try.tyT, fn, pu, pr⟩ npT F70 (G70 ⟨Try.tyT, fn, pu, pr⟩) := ⟨by kernel_rfl, by kernel_rfl, by kernel_rfl, fun cy Y k => by kernel_rfl⟩
noncomputable def F71 : FFn := cF LV 0 [0, 1, 4] Try.f71
noncomputable def G71 (E : Env) : ZFn := ⟨9, [0, 1, 4], fun cy Y fuel =>
  (zSeq (zReg fun k => (zV 2 (vMv (.k (.bool false)))) k)
  (zSeq (zReg fun k => (zCall (cy Y) 86 [(.v 0), (.v 1)] .push) ((zP (vInt E (fGen .geq) .geq 3 false true (.l 0) (.k (.int .i64 0)))) ((zV 2 (vMv (.l 0))) k)))
  zRet)), [.tmp (.v 2)]⟩
theorem G71_ok (fn : Nat → Option Func) (pu : Nat → Bool) (pr : Nat → List AV → Option (Heap → Option (Eff × Acc))) : ZOk ⟨Try.tyT, fn, pu, pr⟩ npT F71 (G71 ⟨Try.tyT, fn, pu, pr⟩) := ⟨by kernel_rfl, by kernel_rfl, by kernel_rfl, fun cy Y k => by kernel_rfl⟩
noncomputable def F72 : FFn := cF LV 0 [0, 10, 9, 8, 1, 7, 5, 4] Try.f72
noncomputable def G72 (E : Env) : ZFn := ⟨24, [0, 10, 9, 8, 1, 7, 5, 4], fun cy Y fuel =>
  (zSeq (zReg fun k => (zV 7 (vMv (.k (.sl 0 [] true)))) k)
  (zSeq (zReg fun k => (zV 6 (vMv (.k (.sl 0 [] true)))) k)
  (zSeq (zSeq (zReg fun k => (zV 3 (vMv (.v 0))) ((zV 2 (vLenL (.v 3))) ((zV 1 (vMv (.k (.int .i64 0)))) k)))
  (zBlock 0 (zLoop fuel (zSeq (zReg fun k => (zP (vInt E fLss .lss 3 false false (.v 1) (.v 2))) k)
  (zSeq (zCond (.l 0) zSkip (zExit 0))
  (zSeq (zBlock 1 (zSeq (zReg fun k => (zP (vIndexAddr 1 (.v 3) (.v 1))) ((zL 1 false (.l 0)) ((zV 5 (vMv (.l 0))) k)))
  (zSeq (zReg fun k => (zCall (cy Y) 71 [(.v 4), (.v 5)] .push) ((zP (vNot (.l 0))) k))
  (zCond (.l 0) (zReg fun k => (zP (vMv (.v 6))) ((zStep E (cy Y) ⟨.buildSlice 32 1 [(0, (.v 5))], .push, none, false, 2, (some 0)⟩) ((zStep E (cy Y) ⟨.append 32 32 (.l 1) (.l 0), .push, none, false, 3, (some 1)⟩) ((zV 6 (vMv (.l 0))) k)))) zSkip))))
  (zReg fun k => (zP (vInt E fAdd .add 3 false true (.v 1) (.k (.int .i64 1)))) ((zV 1 (vMv (.l 0))) k))))))))
  (zSeq (zReg fun k => (zV 7 (vMv (.v 6))) k)
  zRet)))), [.tmp (.v 7)]⟩
theorem G72_ok (fn : Nat → Option Func) (pu : Nat → Bool) (pr : Nat → List AV → Option (Heap → Option (Eff × Acc))) : ZOk ⟨Try.tyT, fn, pu, pr⟩ npT F72 (G72 ⟨Try.tyT, fn, pu, pr⟩) := ⟨by kernel_rfl, by kernel_rfl, by kernel_rfl, fun cy Y k => by kernel_rfl⟩
noncomputable def F75 : FFn := cF LV 0 [1, 0, 8, 9, 10, 2, 11, 4, 6, 7] Try.f75
noncomputable def G75 (E : Env) : ZFn := ⟨49, [1, 0, 8, 9, 10, 2, 11, 4, 6, 7], fun cy Y fuel =>
  (zSeq (zReg fun k => (zStep E (cy Y) ⟨.box 59 (.v 0), (.var 7), none, false, 0, (some 0)⟩) ((zV 8 (vMv (.k (.int .i64 0)))) ((zV 9 (vMv (.k (.bool false)))) k)))
  (zSeq (zReg fun k => (zP (vLenL (.v 1))) ((zV 2 (vMv (.l 0))) k))
  (zSeq (zReg fun k => (zV 3 (vMv (.k (.int .i64 0)))) ((zV 4 (vMv (.v 2))) k))
  (zSeq (zBlock 0 (zLoop fuel (zSeq (zSeq (zReg fun k => (zP (vInt E fLss .lss 3 false false (.v 3) (.v 4))) k)
  (zCond (.l 0) zSkip (zExit 0)))
  (zBlock 1 (zSeq (zReg fun k => (zP (vInt E fAdd .add 3 false false (.v 3) (.v 4))) ((zP (vConv .u64 (.l 0))) ((zP (vBin E .shr 46 false true (.l 0) (.k (.int .u64 1)))) ((zP (vConv .i64 (.l 0))) ((zV 6 (vMv (.l 0))) k)))))
  (zSeq (zDreg 1 fun n0 k => (zPD (vIndexAddr 3 (.v 1) (.v 6))) ((zLD B12 4 3 true (.l 0)) ((zLD B12 5 3 true (.v 7)) ((zStepD E (cy Y) B12 n0 ⟨.callv (.v 5) [(.l 1), (.l 0)], .push, none, false, 6, (some 0)⟩) ((zPD (vInt E fLss .lss 3 false true (.l 0) (.k (.int .i64 0)))) k)))))
  (zCond (.l 0) (zReg fun k => (zP (vInt E fAdd .add 3 false true (.v 6) (.k (.int .i64 1)))) ((zV 3 (vMv (.l 0))) k)) (zReg fun k => (zV 4 (vMv (.v 6))) k))))))))
  (zSeq (zDreg 1 fun n0 k => (zPD (vInt E fLss .lss 3 false false (.v 3) (.v 2))) ((zGD (.l 0) true .push (zPD (vMv (.v 5)))) ((zGD (.l 1) true .push (zPD (vMv (.v 1)))) ((zGD (.l 2) true .push (zPD (vMv (.v 3)))) ((zGD (.l 3) true .push (zPD (vIndexAddr 3 (.l 1) (.l 0)))) ((zGD (.l 4) true .push (zLD B13 9 3 true (.l 0))) ((zGD (.l 5) true .push (zLD B13 10 3 true (.v 7))) ((zGD (.l 6) true .push (zStepD E (cy Y) B13 n0 ⟨.callv (.l 5) [(.l 1), (.l 0)], .push, none, false, 11, (some 0)⟩)) ((zGD (.l 7) true .push (zPD (vInt E fEql .eql 3 false true (.l 0) (.k (.int .i64 0))))) ((zPD (vPick (.l 8) (.l 0) (.k (.bool false)))) ((zVD 8 (vMv (.v 3))) ((zVD 9 (vMv (.l 0))) k))))))))))))
  zRet))))), [.tmp (.v 8), .tmp (.v 9)]⟩
theorem G75_ok (fn : Nat → Option Func) (pu : Nat → Bool) (pr : Nat → List AV → Option (Heap → Option (Eff × Acc))) : ZOk ⟨Try.tyT, fn, pu, pr⟩ npT F75 (G75 ⟨Try.tyT, fn, pu, pr⟩) := ⟨by kernel_rfl, by kernel_rfl, by kernel_rfl, fun cy Y k => by kernel_rfl⟩
noncomputable def F77 : FFn := cF LV 0 [0, 1, 4] Try.f77
noncomputable def G77 (E : Env) : ZFn := ⟨8, [0, 1, 4], fun cy Y fuel =>
  (zSeq (zReg fun k => (zV 2 (vMv (.k (.int .i64 0)))) k)
  (zSeq (zReg fun k => (zCall (cy Y) 91 [(.v 0), (.v 1)] .push) ((zV 2 (vMv (.l 0))) k))
  zRet)), [.tmp (.v 2)]⟩
theorem G77_ok (fn : Nat → Option Func) (pu : Nat → Bool) (pr : Nat → List AV → Option (Heap → Option (Eff × Acc))) : ZOk ⟨Try.tyT, fn, pu, pr⟩ npT F77 (G77 ⟨Try.tyT, fn, pu, pr⟩) := ⟨by kernel_rfl, by kernel_rfl, by kernel_rfl, fun cy Y k => by kernel_rfl⟩
noncomputable def F81 : FFn := cF LV 0 [0, 3, 2] Try.f81
noncomputable def G81 (E : Env) : ZFn := ⟨21, [0, 3, 2], fun cy Y fuel =>
  (zSeq (zReg fun k => (zV 2 (vMv (.k (.str [])))) k)
  (zSeq (zReg fun k => (zV 1 (vMv (.k (.sl 0 [] true)))) k)
  (zSeq (zBlock 0 (zLoop fuel (zSeq (zSeq (zReg fun k => (zP (vInt E (fGen .geq) .geq 40 false true (.v 0) (.k (.int .u64 128)))) k)
  (zCond (.l 0) zSkip (zExit 0)))
  (zSeq (zBlock 1 (zReg fun k => (zP (vMv (.v 1))) ((zP (vInt E (fGen .rem) .rem 40 false true (.v 0) (.k (.int .u64 128)))) ((zP (vInt E fAdd .add 40 false true (.l 0) (.k (.int .u64 128)))) ((zP (vConv .u8 (.l 0))) ((zStep E (cy Y) ⟨.buildSlice 38 1 [(0, (.l 0))], .push, none, false, 5, (some 0)⟩) ((zStep E (cy Y) ⟨.append 38 38 (.l 4) (.l 0), .push, none, false, 6, (some 1)⟩) ((zV 1 (vMv (.l 0))) k))))))))
  (zReg fun k => (zP (vMv (.v 0))) ((zP (vInt E (fGen .quo) .quo 40 false true (.l 0) (.k (.int .u64 128)))) ((zV 0 (vMv (.l 0))) k)))))))
  (zSeq (zReg fun k => (zP (vConv .u8 (.v 0))) ((zStep E (cy Y) ⟨.buildSlice 38 1 [(0, (.l 0))], .push, none, false, 3, (some 0)⟩) ((zStep E (cy Y) ⟨.append 38 38 (.v 1) (.l 0), .push, none, false, 4, (some 1)⟩) ((zStep E (cy Y) ⟨.conv 38 9 (.l 0), .push, none, false, 5, none⟩) ((zV 2 (vMv (.l 0))) k)))))
  zRet)))), [.tmp (.v 2)]⟩
theorem G81_ok (fn : Nat → Option Func) (pu : Nat → Bool) (pr : Nat → List AV → Option (Heap → Option (Eff × Acc))) : ZOk ⟨Try.tyT, fn, pu, pr⟩ npT F81 (G81 ⟨Try.tyT, fn, pu, pr⟩) := ⟨by kernel_rfl, by kernel_rfl, by kernel_rfl, fun cy Y k => by kernel_rfl⟩
noncomputable def F82 : FFn := cF LV 1 [0, 1, 3, 2] Try.f82
noncomputable def G82 (E : Env) : ZFn := ⟨20, [0, 1, 3, 2], fun cy Y fuel =>
  (zSeq (zReg fun k => (zStep E (cy Y) ⟨.box 99 (.v 0), (.var 3), none, false, 0, (some 0)⟩) k)
  (zSeq (zReg fun k => (zStep E (cy Y) ⟨.mkMap 100, .push, none, false, 0, (some 0)⟩) ((zStep E (cy Y) ⟨.alloc 100, (.var 2), none, false, 1, (some 1)⟩) ((zStep E (cy Y) ⟨.store 100 (.v 2) (.l 0), .none, none, false, 2, none⟩) k)))
  (zSeq (zReg fun k => (zL 1 false (.v 1)) k)
  (zBlock 0 (zRange cy Y (.l 0) 1 [none, (some (.v 2)), none, (some (.v 3))] [none, none, (some (.v 3)), (some (.v 2)), none, none, none, none, none, none, none, none, none, none, none, none, none, none, none, none] [7] (codeAt [1, 1, 1, 0, 0] (bodyOf Try.f82)) (codeAt [1, 1, 1, 0, 1] (bodyOf Try.f82))))))), []⟩
theorem G82_ok (fn : Nat → Option Func) (pu : Nat → Bool) (pr : Nat → List AV → Option (Heap → Option (Eff × Acc))) : ZOk ⟨Try.tyT, fn, pu, pr⟩ npT F82 (G82 ⟨Try.tyT, fn, pu, pr⟩) := ⟨by kernel_rfl, by kernel_rfl, by kernel_rfl, fun cy Y k => by kernel_rfl⟩
noncomputable def F83 : FFn := cF LV 0 [0, 4, 1] Try.f83
noncomputable def G83 (E : Env) : ZFn := ⟨14, [0, 4, 1], fun cy Y fuel =>
  (zSeq (zReg fun k => (zP (vLenL (.v 0))) ((zV 1 (vMv (.l 0))) k))
  (zReg fun k => (zP (vConv .u64 (.v 1))) ((zCall (cy Y) 95 [(.l 0)] .push) ((zCall (cy Y) 94 [(.v 0), (.k (.int .i64 0)), (.v 1), (.l 0), (.v 2)] .push) k)))), []⟩
theorem G83_ok (fn : Nat → Option Func) (pu : Nat → Bool) (pr : Nat → List AV → Option (Heap → Option (Eff × Acc))) : ZOk ⟨Try.tyT, fn, pu, pr⟩ npT F83 (G83 ⟨Try.tyT, fn, pu, pr⟩) := ⟨by kernel_rfl, by kernel_rfl, by kernel_rfl, fun cy Y k => by kernel_rfl⟩
noncomputable def F85 : FFn := cF LV 0 [1, 7, 6, 5, 0, 4] Try.f85
noncomputable def G85 (E : Env) : ZFn := ⟨17, [1, 7, 6, 5, 0, 4], fun cy Y fuel =>
  (zSeq (zReg fun k => (zDstW (.var 3) (wLoad 1 false (.v 0))) ((zV 2 (vLenL (.v 3))) ((zV 1 (vMv (.k (.int .i64 0)))) k)))
  (zBlock 0 (zLoop fuel (zSeq (zReg fun k => (zP (vInt E fLss .lss 3 false false (.v 1) (.v 2))) k)
  (zSeq (zCond (.l 0) zSkip (zExit 0))
  (zSeq (zBlock 1 (zSeq (zReg fun k => (zP (vIndexAddr 2 (.v 3) (.v 1))) ((zL 2 true (.l 0)) ((zStep E (cy Y) ⟨.alloc 103, (.var 5), none, false, 2, (some 0)⟩) ((zStep E (cy Y) ⟨.store 103 (.v 5) (.l 0), .none, none, false, 3, none⟩) k))))
  (zSeq (zReg fun k => (zP (vFieldAddr 1 (.v 5))) ((zL 1 false (.l 0)) ((zStep E (cy Y) ⟨.callv (.v 4) [(.l 0)], .push, none, false, 3, (some 0)⟩) ((zP (vNot (.l 0))) k))))
  (zCond (.l 0) zRet zSkip))))
  (zReg fun k => (zP (vInt E fAdd .add 3 false true (.v 1) (.k (.int .i64 1)))) ((zV 1 (vMv (.l 0))) k)))))))), []⟩
theorem G85_ok (fn : Nat → Option Func) (pu : Nat → Bool) (pr : Nat → List AV → Option (Heap → Option (Eff × Acc))) : ZOk ⟨Try.tyT, fn, pu, pr⟩ npT F85 (G85 ⟨Try.tyT, fn, pu, pr⟩) := ⟨by kernel_rfl, by kernel_rfl, by kernel_rfl, fun cy Y k => by kernel_rfl⟩
noncomputable def F86 : FFn := cF LV 0 [0, 8, 7, 1, 5, 4] Try.f86
noncomputable def G86 (E : Env) : ZFn := ⟨19, [0, 8, 7, 1, 5, 4], fun cy Y fuel =>
  (zSeq (zReg fun k => (zV 5 (vMv (.k (.int .i64 0)))) k)
  (zSeq (zSeq (zReg fun k => (zV 2 (vLenL (.v 0))) ((zV 1 (vMv (.k (.int .i64 0)))) k))
  (zBlock 0 (zLoop fuel (zSeq (zReg fun k => (zP (vInt E fLss .lss 3 false false (.v 1) (.v 2))) k)
  (zSeq (zCond (.l 0) zSkip (zExit 0))
  (zSeq (zBlock 1 (zSeq (zReg fun k => (zV 4 (vMv (.v 1))) k)
  (zSeq (zReg fun k => (zP (vIndexAddr 1 (.v 0) (.v 4))) ((zL 1 false (.l 0)) ((zP (vInt E fEql .eql 3 false false (.v 3) (.l 0))) k)))
  (zCond (.l 0) (zSeq (zReg fun k => (zV 5 (vMv (.v 4))) k)
  zRet) zSkip))))
  (zReg fun k => (zP (vInt E fAdd .add 3 false true (.v 1) (.k (.int .i64 1)))) ((zV 1 (vMv (.l 0))) k))))))))
  (zSeq (zReg fun k => (zV 5 (vMv (.k (.int .i64 (-1))))) k)
  zRet))), [.tmp (.v 5)]⟩
theorem G86_ok (fn : Nat → Option Func) (pu : Nat → Bool) (pr : Nat → List AV → Option (Heap → Option (Eff × Acc))) : ZOk ⟨Try.tyT, fn, pu, pr⟩ npT F86 (G86 ⟨Try.tyT, fn, pu, pr⟩) := ⟨by kernel_rfl, by kernel_rfl, by kernel_rfl, fun cy Y k => by kernel_rfl⟩
noncomputable def F91 : FFn := cF LV 0 [0, 1, 4] Try.f91
noncomputable def G91 (E : Env) : ZFn := ⟨8, [0, 1, 4], fun cy Y fuel =>
  (zSeq (zReg fun k => (zV 2 (vMv (.k (.int .i64 0)))) k)
  (zSeq (zReg fun k => (zStep E (cy Y) ⟨.call 97 [(.v 0), (.v 1)], .push, none, false, 2, (some 0)⟩) ((zV 2 (vMv (.l 0))) k))
  zRet)), [.tmp (.v 2)]⟩
theorem G91_ok (fn : Nat → Option Func) (pu : Nat → Bool) (pr : Nat → List AV → Option (Heap → Option (Eff × Acc))) : ZOk ⟨Try.tyT, fn, pu, pr⟩ npT F91 (G91 ⟨Try.tyT, fn, pu, pr⟩) := ⟨by kernel_rfl, by kernel_rfl, by kernel_rfl, fun cy Y k => by kernel_rfl⟩
noncomputable def F94 : FFn := cF LV 0 [2, 1, 12, 0, 4, 3, 10, 14, 13, 11, 15, 17, 16, 18, 19, 20] Try.f94
noncomputable def G94 (E : Env) : ZFn := ⟨148, [2, 1, 12, 0, 4, 3, 10, 14, 13, 11, 15, 17, 16, 18, 19, 20], fun cy Y fuel =>
  (zSeq (zReg fun k => (zV 6 (vMv (.k (.bool true)))) k)
  (zSeq (zReg fun k => (zV 9 (vMv (.k (.bool true)))) k)
  (zBlock 0 (zLoop fuel (zBlock 1 (zSeq (zReg fun k => (zP (vInt E fSub .sub 3 false false (.v 0) (.v 1))) ((zV 2 (vMv (.l 0))) k))
  (zSeq (zSeq (zReg fun k => (zP (vInt E (fGen .leq) .leq 3 false true (.v 2) (.k (.int .i64 12)))) k)
  (zCond (.l 0) (zSeq (zReg fun k => (zCall (cy Y) 99 [(.v 3), (.v 1), (.v 0), (.v 4)] .push) k)
  zRet) zSkip))
  (zSeq (zSeq (zReg fun k => (zP (vInt E fEql .eql 3 false true (.v 5) (.k (.int .i64 0)))) k)
  (zCond (.l 0) (zSeq (zReg fun k => (zCall (cy Y) 100 [(.v 3), (.v 1), (.v 0), (.v 4)] .push) k)
  zRet) zSkip))
  (zSeq (zSeq (zReg fun k => (zP (vNot (.v 6))) k)
  (zCond (.l 0) (zSeq (zReg fun k => (zCall (cy Y) 101 [(.v 3), (.v 1), (.v 0), (.v 4)] .push) k)
  (zReg fun k => (zP (vMv (.v 5))) ((zP (vInt E fSub .sub 3 false true (.l 0) (.k (.int .i64 1)))) ((zV 5 (vMv (.l 0))) k)))) zSkip))
  (zSeq (zReg fun k => (zCall (cy Y) 102 [(.v 3), (.v 1), (.v 0), (.v 4)] .push) ((zP (vExtract 0 (.l 0))) ((zP (vExtract 1 (.l 1))) ((zV 8 (vMv (.l 1))) ((zV 7 (vMv (.l 0))) k)))))
  (zSeq (zSeq (zReg fun k => (zP (vInt E fEql .eql 113 false true (.v 7) (.k (.int .i64 2)))) k)
  (zCond (.l 0) (zSeq (zReg fun k => (zCall (cy Y) 103 [(.v 3), (.v 1), (.v 0), (.v 4)] .push) k)
  (zSeq (zReg fun k => (zP (vInt E fSub .sub 3 false true (.v 0) (.k (.int .i64 1)))) ((zP (vMv (.v 8))) ((zP (vInt E fSub .sub 3 false false (.l 0) (.v 1))) ((zP (vInt E fSub .sub 3 false false (.l 2) (.l 0))) ((zV 8 (vMv (.l 0))) k)))))
  (zReg fun k => (zV 7 (vMv (.k (.int .i64 1)))) k))) zSkip))
  (zSeq (zSeq (zReg fun k => (zG (.v 6) true .push (zP (vMv (.v 9)))) ((zP (vPick (.v 6) (.l 0) (.k (.bool false)))) ((zG (.l 0) true .push (zP (vMv (.v 7)))) ((zG (.l 1) true .push (zP (vInt E fEql .eql 113 false true (.l 0) (.k (.int .i64 1))))) ((zP (vPick (.l 2) (.l 0) (.k (.bool false)))) k)))))
  (zCond (.l 0) (zSeq (zReg fun k => (zCall (cy Y) 104 [(.v 3), (.v 1), (.v 0), (.v 4)] .push) k)
  (zCond (.l 0) zRet zSkip)) zSkip))
  (zSeq (zSeq (zDreg 1 fun n0 k => (zPD (vInt E fGtr .gtr 3 false true (.v 1) (.k (.int .i64 0)))) ((zGD (.l 0) true .push (zPD (vMv (.v 4)))) ((zGD (.l 1) true .push (zPD (vMv (.v 3)))) ((zGD (.l 2) true .push (zPD (vMv (.v 1)))) ((zGD (.l 3) true .push (zPD (vInt E fSub .sub 3 false true (.l 0) (.k (.int .i64 1))))) ((zGD (.l 4) true .push (zPD (vIndexAddr 2 (.l 2) (.l 0)))) ((zGD (.l 5) true .push (zLD B14 8 2 true (.l 0))) ((zGD (.l 6) true .push (zPD (vMv (.v 3)))) ((zGD (.l 7) true .push (zPD (vMv (.v 8)))) ((zGD (.l 8) true .push (zPD (vIndexAddr 2 (.l 1) (.l 0)))) ((zGD (.l 9) true .push (zLD B14 12 2 true (.l 0))) ((zGD (.l 10) true .push (zStepD E (cy Y) B14 n0 ⟨.callv (.l 9) [(.l 4), (.l 0)], .push, none, false, 13, (some 0)⟩)) ((zGD (.l 11) true .push (zPD (vInt E fLss .lss 3 false true (.l 0) (.k (.int .i64 0))))) ((zGD (.l 12) true .push (zPD (vNot (.l 0)))) ((zPD (vPick (.l 13) (.l 0) (.k (.bool false)))) k)))))))))))))))
  (zCond (.l 0) (zSeq (zReg fun k => (zCall (cy Y) 105 [(.v 3), (.v 1), (.v 0), (.v 8), (.v 4)] .push) ((zV 10 (vMv (.l 0))) k))
  (zSeq (zReg fun k => (zV 1 (vMv (.v 10))) k)
  (zExit 1))) zSkip))
  (zSeq (zReg fun k => (zCall (cy Y) 106 [(.v 3), (.v 1), (.v 0), (.v 8), (.v 4)] .push) ((zP (vExtract 0 (.l 0))) ((zP (vExtract 1 (.l 1))) ((zV 12 (vMv (.l 1))) ((zV 11 (vMv (.l 0))) k)))))
  (zSeq (zReg fun k => (zV 9 (vMv (.v 11))) k)
  (zSeq (zReg fun k => (zP (vInt E fSub .sub 3 false false (.v 12) (.v 1))) ((zP (vInt E fSub .sub 3 false false (.v 0) (.v 12))) ((zV 13 (vMv (.l 1))) ((zV 14 (vMv (.l 0))) k))))
  (zSeq (zReg fun k => (zP (vInt E (fGen .quo) .quo 3 false true (.v 2) (.k (.int .i64 8)))) ((zV 15 (vMv (.l 0))) k))
  (zSeq (zReg fun k => (zP (vInt E fLss .lss 3 false false (.v 13) (.v 14))) k)
  (zCond (.l 0) (zSeq (zReg fun k => (zP (vInt E (fGen .geq) .geq 3 false false (.v 13) (.v 15))) ((zV 6 (vMv (.l 0))) k))
  (zSeq (zReg fun k => (zCall (cy Y) 94 [(.v 3), (.v 1), (.v 12), (.v 5), (.v 4)] .push) k)
  (zReg fun k => (zP (vInt E fAdd .add 3 false true (.v 12) (.k (.int .i64 1)))) ((zV 1 (vMv (.l 0))) k)))) (zSeq (zReg fun k => (zP (vInt E (fGen .geq) .geq 3 false false (.v 14) (.v 15))) ((zV 6 (vMv (.l 0))) k))
  (zSeq (zReg fun k => (zP (vInt E fAdd .add 3 false true (.v 12) (.k (.int .i64 1)))) ((zCall (cy Y) 94 [(.v 3), (.l 0), (.v 0), (.v 5), (.v 4)] .push) k))
  (zReg fun k => (zV 0 (vMv (.v 12))) k)))))))))))))))))))))), []⟩
theorem G94_ok (fn : Nat → Option Func) (pu : Nat → Bool) (pr : Nat → List AV → Option (Heap → Option (Eff × Acc))) : ZOk ⟨Try.tyT, fn, pu, pr⟩ npT F94 (G94 ⟨Try.tyT, fn, pu, pr⟩) := ⟨by kernel_rfl, by kernel_rfl, by kernel_rfl, fun cy Y k => by kernel_rfl⟩
noncomputable def F95 : FFn := cF LV 0 [0, 2] Try.f95
noncomputable def G95 (E : Env) : ZFn := ⟨8, [0, 2], fun cy Y fuel =>
  (zSeq (zReg fun k => (zV 1 (vMv (.k (.int .i64 0)))) k)
  (zSeq (zCond (.k (.bool false)) (zSeq (zReg fun k => (zP (vConv .u32 (.v 0))) ((zCall (cy Y) 107 [(.l 0)] .push) ((zV 1 (vMv (.l 0))) k)))
  zRet) zSkip)
  (zSeq (zReg fun k => (zCall (cy Y) 108 [(.v 0)] .push) ((zV 1 (vMv (.l 0))) k))
  zRet))), [.tmp (.v 1)]⟩
theorem G95_ok (fn : Nat → Option Func) (pu : Nat → Bool) (pr : Nat → List AV → Option (Heap → Option (Eff × Acc))) : ZOk ⟨Try.tyT, fn, pu, pr⟩ npT F95 (G95 ⟨Try.tyT, fn, pu, pr⟩) := ⟨by kernel_rfl, by kernel_rfl, by kernel_rfl, fun cy Y k => by kernel_rfl⟩
noncomputable def F99 : FFn := cF LV 0 [1, 8, 2, 9, 3, 0] Try.f99
noncomputable def G99 (E : Env) : ZFn := ⟨53, [1, 8, 2, 9, 3, 0], fun cy Y fuel =>
  (zSeq (zReg fun k => (zP (vInt E fAdd .add 3 false true (.v 0) (.k (.int .i64 1)))) ((zV 1 (vMv (.l 0))) k))
  (zBlock 0 (zLoop fuel (zSeq (zSeq (zReg fun k => (zP (vInt E fLss .lss 3 false false (.v 1) (.v 2))) k)
  (zCond (.l 0) zSkip (zExit 0)))
  (zSeq (zBlock 1 (zSeq (zReg fun k => (zV 3 (vMv (.v 1))) k)
  (zBlock 2 (zLoop fuel (zSeq (zSeq (zDreg 1 fun n0 k => (zPD (vInt E fGtr .gtr 3 false false (.v 3) (.v 0))) ((zGD (.l 0) true .push (zPD (vMv (.v 4)))) ((zGD (.l 1) true .push (zPD (vMv (.v 5)))) ((zGD (.l 2) true .push (zPD (vMv (.v 3)))) ((zGD (.l 3) true .push (zPD (vIndexAddr 2 (.l 1) (.l 0)))) ((zGD (.l 4) true .push (zLD B15 8 2 true (.l 0))) ((zGD (.l 5) true .push (zPD (vMv (.v 5)))) ((zGD (.l 6) true .push (zPD (vMv (.v 3)))) ((zGD (.l 7) true .push (zPD (vInt E fSub .sub 3 false true (.l 0) (.k (.int .i64 1))))) ((zGD (.l 8) true .push (zPD (vIndexAddr 2 (.l 2) (.l 0)))) ((zGD (.l 9) true .push (zLD B15 13 2 true (.l 0))) ((zGD (.l 10) true .push (zStepD E (cy Y) B15 n0 ⟨.callv (.l 9) [(.l 5), (.l 0)], .push, none, false, 14, (some 0)⟩)) ((zGD (.l 11) true .push (zPD (vInt E fLss .lss 3 false true (.l 0) (.k (.int .i64 0))))) ((zPD (vPick (.l 12) (.l 0) (.k (.bool false)))) k))))))))))))))
  (zCond (.l 0) zSkip (zExit 2)))
  (zSeq (zBlock 3 (zDreg 0 fun n0 k => (zPD (vInt E fSub .sub 3 false true (.v 3) (.k (.int .i64 1)))) ((zPD (vInt E fSub .sub 3 false true (.v 3) (.k (.int .i64 1)))) ((zPD (vIndexAddr 2 (.v 5) (.l 0))) ((zLD B16 9 2 true (.l 0)) ((zPD (vIndexAddr 2 (.v 5) (.v 3))) ((zLD B16 13 2 true (.l 0)) ((zPD (vIndexAddr 2 (.v 5) (.v 3))) ((zStepD E (cy Y) B16 n0 ⟨.store 103 (.l 0) (.l 3), .none, none, false, 15, none⟩) ((zPD (vIndexAddr 2 (.v 5) (.l 6))) ((zStepD E (cy Y) B16 n0 ⟨.store 103 (.l 0) (.l 2), .none, none, false, 17, none⟩) k)))))))))))
  (zReg fun k => (zP (vMv (.v 3))) ((zP (vInt E fSub .sub 3 false true (.l 0) (.k (.int .i64 1)))) ((zV 3 (vMv (.l 0))) k)))))))))
  (zReg fun k => (zP (vMv (.v 1))) ((zP (vInt E fAdd .add 3 false true (.l 0) (.k (.int .i64 1)))) ((zV 1 (vMv (.l 0))) k)))))))), []⟩
theorem G99_ok (fn : Nat → Option Func) (pu : Nat → Bool) (pr : Nat → List AV → Option (Heap → Option (Eff × Acc))) : ZOk ⟨Try.tyT, fn, pu, pr⟩ npT F99 (G99 ⟨Try.tyT, fn, pu, pr⟩) := ⟨by kernel_rfl, by kernel_rfl, by kernel_rfl, fun cy Y k => by kernel_rfl⟩
noncomputable def F107 : FFn := cF LV 0 [0, 2] Try.f107
noncomputable def G107 (E : Env) : ZFn := ⟨19, [0, 2], fun cy Y fuel =>
  (zSeq (zReg fun k => (zV 1 (vMv (.k (.int .i64 0)))) k)
  (zSeq (zSeq (zReg fun k => (zP (vInt E (fGen .geq) .geq 120 false true (.v 0) (.k (.int .u32 65536)))) k)
  (zCond (.l 0) (zSeq (zReg fun k => (zP (vMv (.v 0))) ((zP (vBin E .shr 120 false true (.l 0) (.k (.int .u64 16)))) ((zV 0 (vMv (.l 0))) k)))
  (zReg fun k => (zV 1 (vMv (.k (.int .i64 16)))) k)) zSkip))
  (zSeq (zSeq (zReg fun k => (zP (vInt E (fGen .geq) .geq 120 false true (.v 0) (.k (.int .u32 256)))) k)
  (zCond (.l 0) (zSeq (zReg fun k => (zP (vMv (.v 0))) ((zP (vBin E .shr 120 false true (.l 0) (.k (.int .u64 8)))) ((zV 0 (vMv (.l 0))) k)))
  (zReg fun k => (zP (vMv (.v 1))) ((zP (vInt E fAdd .add 3 false true (.l 0) (.k (.int .i64 8)))) ((zV 1 (vMv (.l 0))) k)))) zSkip))
  (zSeq (zReg fun k => (zP (vMv (.v 1))) ((zP (vConv .u8 (.v 0))) ((zStep E (cy Y) ⟨.index 9 (.k (.str [0, 1, 2, 2, 3, 3, 3, 3, 4, 4, 4, 4, 4, 4, 4, 4, 5, 5, 5, 5, 5, 5, 5, 5, 5, 5, 5, 5, 5, 5, 5, 5, 6, 6, 6, 6, 6, 6, 6, 6, 6, 6, 6, 6, 6, 6, 6, 6, 6, 6, 6, 6, 6, 6, 6, 6, 6, 6, 6, 6, 6, 6, 6, 6, 7, 7, 7, 7, 7, 7, 7, 7, 7, 7, 7, 7, 7, 7, 7, 7, 7, 7, 7, 7, 7, 7, 7, 7, 7, 7, 7, 7, 7, 7, 7, 7, 7, 7, 7, 7, 7, 7, 7, 7, 7, 7, 7, 7, 7, 7, 7, 7, 7, 7, 7, 7, 7, 7, 7, 7, 7, 7, 7, 7, 7, 7, 7, 7, 8, 8, 8, 8, 8, 8, 8, 8, 8, 8, 8, 8, 8, 8, 8, 8, 8, 8, 8, 8, 8, 8, 8, 8, 8, 8, 8, 8, 8, 8, 8, 8, 8, 8, 8, 8, 8, 8, 8, 8, 8, 8, 8, 8, 8, 8, 8, 8, 8, 8, 8, 8, 8, 8, 8, 8, 8, 8, 8, 8, 8, 8, 8, 8, 8, 8, 8, 8, 8, 8, 8, 8, 8, 8, 8, 8, 8, 8, 8, 8, 8, 8, 8, 8, 8, 8, 8, 8, 8, 8, 8, 8, 8, 8, 8, 8, 8, 8, 8, 8, 8, 8, 8, 8, 8, 8, 8, 8, 8, 8, 8, 8, 8, 8, 8, 8, 8, 8, 8, 8, 8, 8, 8, 8, 8, 8, 8, 8])) (.l 0), .push, none, false, 3, none⟩) ((zP (vConv .i64 (.l 0))) ((zP (vInt E fAdd .add 3 false false (.l 3) (.l 0))) ((zV 1 (vMv (.l 0))) k))))))
  zRet)))), [.tmp (.v 1)]⟩
theorem G107_ok (fn : Nat → Option Func) (pu : Nat → Bool) (pr : Nat → List AV → Option (Heap → Option (Eff × Acc))) : ZOk ⟨Try.tyT, fn, pu, pr⟩ npT F107 (G107 ⟨Try.tyT, fn, pu, pr⟩) := ⟨by kernel_rfl, by kernel_rfl, by kernel_rfl, fun cy Y k => by kernel_rfl⟩
noncomputable def F108 : FFn := cF LV 0 [0, 2] Try.f108
noncomputable def G108 (E : Env) : ZFn := ⟨25, [0, 2], fun cy Y fuel =>
  (zSeq (zReg fun k => (zV 1 (vMv (.k (.int .i64 0)))) k)
  (zSeq (zSeq (zReg fun k => (zP (vInt E (fGen .geq) .geq 40 false true (.v 0) (.k (.int .u64 4294967296)))) k)
  (zCond (.l 0) (zSeq (zReg fun k => (zP (vMv (.v 0))) ((zP (vBin E .shr 40 false true (.l 0) (.k (.int .u64 32)))) ((zV 0 (vMv (.l 0))) k)))
  (zReg fun k => (zV 1 (vMv (.k (.int .i64 32)))) k)) zSkip))
  (zSeq (zSeq (zReg fun k => (zP (vInt E (fGen .geq) .geq 40 false true (.v 0) (.k (.int .u64 65536)))) k)
  (zCond (.l 0) (zSeq (zReg fun k => (zP (vMv (.v 0))) ((zP (vBin E .shr 40 false true (.l 0) (.k (.int .u64 16)))) ((zV 0 (vMv (.l 0))) k)))
  (zReg fun k => (zP (vMv (.v 1))) ((zP (vInt E fAdd .add 3 false true (.l 0) (.k (.int .i64 16)))) ((zV 1 (vMv (.l 0))) k)))) zSkip))
  (zSeq (zSeq (zReg fun k => (zP (vInt E (fGen .geq) .geq 40 false true (.v 0) (.k (.int .u64 256)))) k)
  (zCond (.l 0) (zSeq (zReg fun k => (zP (vMv (.v 0))) ((zP (vBin E .shr 40 false true (.l 0) (.k (.int .u64 8)))) ((zV 0 (vMv (.l 0))) k)))
  (zReg fun k => (zP (vMv (.v 1))) ((zP (vInt E fAdd .add 3 false true (.l 0) (.k (.int .i64 8)))) ((zV 1 (vMv (.l 0))) k)))) zSkip))
  (zSeq (zReg fun k => (zP (vMv (.v 1))) ((zP (vConv .u8 (.v 0))) ((zStep E (cy Y) ⟨.index 9 (.k (.str [0, 1, 2, 2, 3, 3, 3, 3, 4, 4, 4, 4, 4, 4, 4, 4, 5, 5, 5, 5, 5, 5, 5, 5, 5, 5, 5, 5, 5, 5, 5, 5, 6, 6, 6, 6, 6, 6, 6, 6, 6, 6, 6, 6, 6, 6, 6, 6, 6, 6, 6, 6, 6, 6, 6, 6, 6, 6, 6, 6, 6, 6, 6, 6, 7, 7, 7, 7, 7, 7, 7, 7, 7, 7, 7, 7, 7, 7, 7, 7, 7, 7, 7, 7, 7, 7, 7, 7, 7, 7, 7, 7, 7, 7, 7, 7, 7, 7, 7, 7, 7, 7, 7, 7, 7, 7, 7, 7, 7, 7, 7, 7, 7, 7, 7, 7, 7, 7, 7, 7, 7, 7, 7, 7, 7, 7, 7, 7, 8, 8, 8, 8, 8, 8, 8, 8, 8, 8, 8, 8, 8, 8, 8, 8, 8, 8, 8, 8, 8, 8, 8, 8, 8, 8, 8, 8, 8, 8, 8, 8, 8, 8, 8, 8, 8, 8, 8, 8, 8, 8, 8, 8, 8, 8, 8, 8, 8, 8, 8, 8, 8, 8, 8, 8, 8, 8, 8, 8, 8, 8, 8, 8, 8, 8, 8, 8, 8, 8, 8, 8, 8, 8, 8, 8, 8, 8, 8, 8, 8, 8, 8, 8, 8, 8, 8, 8, 8, 8, 8, 8, 8, 8, 8, 8, 8, 8, 8, 8, 8, 8, 8, 8, 8, 8, 8, 8, 8, 8, 8, 8, 8, 8, 8, 8, 8, 8, 8, 8, 8, 8, 8, 8, 8, 8, 8, 8])) (.l 0), .push, none, false, 3, none⟩) ((zP (vConv .i64 (.l 0))) ((zP (vInt E fAdd .add 3 false false (.l 3) (.l 0))) ((zV 1 (vMv (.l 0))) k))))))
  zRet))))), [.tmp (.v 1)]⟩
theorem G108_ok (fn : Nat → Option Func) (pu : Nat → Bool) (pr : Nat → List AV → Option (Heap → Option (Eff × Acc))) : ZOk ⟨Try.tyT, fn, pu, pr⟩ npT F108 (G108 ⟨Try.tyT, fn, pu, pr⟩) := ⟨by kernel_rfl, by kernel_rfl, by kernel_rfl, fun cy Y k => by kernel_rfl⟩
end Go.Proofs.PxR2
