/- The functions of the seat, in one breath: part 0. -/
import Derived.Test.YtnpphcbfainkbaaPzE
import Derived.Test.YtnpphcbfainkbaaProg
import Derived.Test.YtnpphcbfainkbaaPxEnvTry
import Derived.KernelRfl
set_option maxRecDepth 100000
set_option linter.unusedVariables false
set_option linter.unusedSimpArgs false
namespace Go.Proofs.PxTry
open Go Go.Px Go.Proofs
def toldT : List Nat := [11, 31, 40, 61, 63, 78, 82, 99]
def npT (f : Nat) : Bool := !(toldT.any fun g => Nat.beq g f)
noncomputable def L0 : LFn := ⟨18, [12, 5, 6], [(some 0)], (.reg [⟨.mv (.v 0), (.var 2), none, true, 0, none⟩]), (.block 1 (.reg [⟨.load 32 (.v 1), .push, none, true, 0, none⟩,
    ⟨.buildSlice 32 1 [(0, (.v 2))], .push, none, false, 2, (some 0)⟩,
    ⟨.append 32 32 (.l 1) (.l 0), .push, none, false, 3, (some 1)⟩,
    ⟨.store 32 (.v 1) (.l 0), .none, none, false, 4, none⟩]))⟩
noncomputable def M0 (E : Env) : ZLn := ⟨18, [12, 5, 6], [(some 0)], fun cy Y fuel =>
  (zReg fun k => (zDst (.var 2) (vMv (.v 0))) k), fun cy Y fuel =>
  (zBlock 1 (zReg fun k => (zDstW .push (wLoad 1 false (.v 1))) ((zStep E (cy Y) ⟨.buildSlice 32 1 [(0, (.v 2))], .push, none, false, 2, (some 0)⟩) ((zStep E (cy Y) ⟨.append 32 32 (.l 1) (.l 0), .push, none, false, 3, (some 1)⟩) ((zStep E (cy Y) ⟨.store 32 (.v 1) (.l 0), .none, none, false, 4, none⟩) k)))))⟩
theorem M0_ok (fn : Nat → Option Func) (pu : Nat → Bool) (pr : Nat → List AV → Option (Heap → Option (Eff × Acc))) : ZLOk ⟨Try.tyT, fn, pu, pr⟩ npT L0 (M0 ⟨Try.tyT, fn, pu, pr⟩) := ⟨rfl, fun cy Y k => by kernel_rfl, fun cy Y k => by kernel_rfl⟩
noncomputable def L1 : LFn := ⟨12, [7, 8, 3, 4, 2], [(some 0), (some 1)], (.seq (.reg [⟨.mv (.v 0), (.var 2), none, true, 0, none⟩]) (.reg [⟨.mv (.v 1), (.var 3), none, true, 0, none⟩])), (.block 1 (.seq (.reg [⟨.bin .geq 9 false false (.v 2) (.v 3), .push, none, false, 2, none⟩]) (.cond (.l 0) (.seq (.reg [⟨.store 4 (.v 4) (.k (.bool false)), .none, none, false, 0, none⟩]) .ret) .skip)))⟩
noncomputable def M1 (E : Env) : ZLn := ⟨12, [7, 8, 3, 4, 2], [(some 0), (some 1)], fun cy Y fuel =>
  (zSeq (zReg fun k => (zDst (.var 2) (vMv (.v 0))) k)
  (zReg fun k => (zDst (.var 3) (vMv (.v 1))) k)), fun cy Y fuel =>
  (zBlock 1 (zSeq (zReg fun k => (zDst .push (vInt E (fGen .geq) .geq 9 false false (.v 2) (.v 3))) k)
  (zCond (.l 0) (zSeq (zReg fun k => (zStep E (cy Y) ⟨.store 4 (.v 4) (.k (.bool false)), .none, none, false, 0, none⟩) k)
  zRet) zSkip)))⟩
theorem M1_ok (fn : Nat → Option Func) (pu : Nat → Bool) (pr : Nat → List AV → Option (Heap → Option (Eff × Acc))) : ZLOk ⟨Try.tyT, fn, pu, pr⟩ npT L1 (M1 ⟨Try.tyT, fn, pu, pr⟩) := ⟨rfl, fun cy Y k => by kernel_rfl, fun cy Y k => by kernel_rfl⟩
noncomputable def L2 : LFn := ⟨20, [7, 3, 4, 2], [(some 0)], (.reg [⟨.mv (.v 0), (.var 2), none, true, 0, none⟩]), (.block 1 (.seq (.seq (.reg [⟨.load 101 (.v 1), .push, none, true, 0, none⟩,
    ⟨.lookup 101 (.l 0) (.v 2) false, .push, none, false, 2, none⟩,
    ⟨.un .not (.l 0), .push, none, false, 3, none⟩,
    ⟨.load 100 (.v 3), .push, (some ((.l 0), true)), true, 5, none⟩,
    ⟨.mv (.v 2), .push, (some ((.l 1), true)), true, 6, none⟩,
    ⟨.callv (.l 1) [(.l 0)], .push, (some ((.l 2), true)), false, 7, (some 0)⟩,
    ⟨.un .not (.l 0), .push, (some ((.l 3), true)), false, 8, none⟩,
    ⟨.pick (.l 4) (.l 0) (.k (.bool false)), .push, none, true, 9, none⟩]) (.cond (.l 0) .ret .skip)) (.reg [⟨.load 101 (.v 1), .push, none, true, 0, none⟩,
    ⟨.mapUp 101 (.l 0) (.v 2) (.k (.bool true)), .none, none, false, 2, none⟩])))⟩
noncomputable def M2 (E : Env) : ZLn := ⟨20, [7, 3, 4, 2], [(some 0)], fun cy Y fuel =>
  (zReg fun k => (zDst (.var 2) (vMv (.v 0))) k), fun cy Y fuel =>
  (zBlock 1 (zSeq (zSeq (zReg fun k => (zDstW .push (wLoad 1 false (.v 1))) ((zStep E (cy Y) ⟨.lookup 101 (.l 0) (.v 2) false, .push, none, false, 2, none⟩) ((zDst .push (vNot (.l 0))) ((zG (.l 0) true .push (zDstW .push (wLoad 1 false (.v 3)))) ((zG (.l 1) true .push (zDst .push (vMv (.v 2)))) ((zG (.l 2) true .push (zStep E (cy Y) ⟨.callv (.l 1) [(.l 0)], .push, none, false, 7, (some 0)⟩)) ((zG (.l 3) true .push (zDst .push (vNot (.l 0)))) ((zDst .push (vPick (.l 4) (.l 0) (.k (.bool false)))) k))))))))
  (zCond (.l 0) zRet zSkip))
  (zReg fun k => (zDstW .push (wLoad 1 false (.v 1))) ((zStep E (cy Y) ⟨.mapUp 101 (.l 0) (.v 2) (.k (.bool true)), .none, none, false, 2, none⟩) k))))⟩
theorem M2_ok (fn : Nat → Option Func) (pu : Nat → Bool) (pr : Nat → List AV → Option (Heap → Option (Eff × Acc))) : ZLOk ⟨Try.tyT, fn, pu, pr⟩ npT L2 (M2 ⟨Try.tyT, fn, pu, pr⟩) := ⟨rfl, fun cy Y k => by kernel_rfl, fun cy Y k => by kernel_rfl⟩
noncomputable def F2 : FFn := ⟨1, [], (.reg [⟨.call 1 [], .push, none, false, 0, (some 0)⟩]), []⟩
noncomputable def G2 (E : Env) : ZFn := ⟨1, [], fun cy Y fuel =>
  (zReg fun k => (zCall (cy Y) 1 [] .push) k), []⟩
theorem G2_ok (fn : Nat → Option Func) (pu : Nat → Bool) (pr : Nat → List AV → Option (Heap → Option (Eff × Acc))) : ZOk ⟨Try.tyT, fn, pu, pr⟩ npT F2 (G2 ⟨Try.tyT, fn, pu, pr⟩) := ⟨rfl, rfl, rfl, fun cy Y k => by kernel_rfl⟩
noncomputable def F3 : FFn := ⟨93, [0, 1, 4, 5, 6, 3, 2, 10], (.seq (.reg [⟨.box 25 (.v 0), (.var 3), none, false, 0, (some 0)⟩,
    ⟨.box 25 (.v 1), (.var 4), none, false, 1, (some 1)⟩,
    ⟨.mv (.k (.bool false)), (.var 7), none, true, 2, none⟩]) (.seq (.seq (.reg [⟨.call 11 [], .push, none, false, 0, (some 0)⟩,
    ⟨.un .not (.l 0), .push, none, false, 1, none⟩]) (.cond (.l 0) (.seq (.reg [⟨.mv (.k (.bool false)), (.var 7), none, true, 0, none⟩]) .ret) .skip)) (.seq (.seq (.reg [⟨.len 9 (.v 2), .push, none, false, 1, none⟩,
    ⟨.bin .gtr 3 false true (.l 0) (.k (.int .i64 40)), .push, none, false, 2, none⟩]) (.cond (.l 0) (.seq (.reg [⟨.mv (.k (.bool true)), (.var 7), none, true, 0, none⟩]) .ret) .skip)) (.seq (.seq (.dreg 7 [0, 1, 0, 7, 15, 31, 63, 63, 255, 63, 63, 2047, 4095, 8191, 16383, 32767, 65535, 32767, 262143, 524287, 1048575, 2097151] [⟨.load 25 (.v 3), .push, none, true, 0, none⟩,
    ⟨.call 12 [(.l 0)], .push, none, false, 1, (some 0)⟩,
    ⟨.load 25 (.v 3), .push, none, true, 2, none⟩,
    ⟨.call 13 [(.l 0)], .push, none, false, 3, (some 1)⟩,
    ⟨.bin .neq 4 false false (.l 2) (.l 0), .push, none, false, 4, none⟩,
    ⟨.load 25 (.v 3), .push, (some ((.l 0), false)), true, 6, none⟩,
    ⟨.load 25 (.v 4), .push, (some ((.l 1), false)), true, 7, none⟩,
    ⟨.call 14 [(.l 1), (.l 0)], .push, (some ((.l 2), false)), false, 8, (some 2)⟩,
    ⟨.load 25 (.v 3), .push, (some ((.l 3), false)), true, 9, none⟩,
    ⟨.load 25 (.v 4), .push, (some ((.l 4), false)), true, 10, none⟩,
    ⟨.call 15 [(.l 1), (.l 0)], .push, (some ((.l 5), false)), false, 11, (some 3)⟩,
    ⟨.bin .neq 4 false false (.l 3) (.l 0), .push, (some ((.l 6), false)), false, 12, none⟩,
    ⟨.pick (.l 7) (.k (.bool true)) (.l 0), .push, none, true, 13, none⟩,
    ⟨.mv (.v 5), .push, (some ((.l 0), false)), true, 15, none⟩,
    ⟨.call 16 [(.l 0)], .push, (some ((.l 1), false)), false, 16, (some 4)⟩,
    ⟨.mv (.v 5), .push, (some ((.l 2), false)), true, 17, none⟩,
    ⟨.call 17 [(.l 0)], .push, (some ((.l 3), false)), false, 18, (some 5)⟩,
    ⟨.call 15 [(.l 2), (.l 0)], .push, (some ((.l 4), false)), false, 19, (some 6)⟩,
    ⟨.un .not (.l 0), .push, (some ((.l 5), false)), false, 20, none⟩,
    ⟨.pick (.l 6) (.k (.bool true)) (.l 0), .push, none, true, 21, none⟩]) (.cond (.l 0) (.seq (.reg [⟨.mv (.k (.bool false)), (.var 7), none, true, 0, none⟩]) .ret) .skip)) (.seq (.seq (.reg [⟨.load 25 (.v 3), .push, none, true, 0, none⟩,
    ⟨.call 13 [(.l 0)], .push, none, false, 1, (some 0)⟩,
    ⟨.un .not (.l 0), .push, none, false, 2, none⟩,
    ⟨.load 25 (.v 4), .push, (some ((.l 0), false)), true, 4, none⟩,
    ⟨.call 13 [(.l 0)], .push, (some ((.l 1), false)), false, 5, (some 1)⟩,
    ⟨.un .not (.l 0), .push, (some ((.l 2), false)), false, 6, none⟩,
    ⟨.pick (.l 3) (.k (.bool true)) (.l 0), .push, none, true, 7, none⟩,
    ⟨.load 25 (.v 3), .push, (some ((.l 0), false)), true, 9, none⟩,
    ⟨.call 18 [(.l 0)], .push, (some ((.l 1), false)), false, 10, (some 2)⟩,
    ⟨.pick (.l 2) (.k (.bool true)) (.l 0), .push, none, true, 11, none⟩]) (.cond (.l 0) (.seq (.reg [⟨.mv (.k (.bool true)), (.var 7), none, true, 0, none⟩]) .ret) .skip)) (.seq (.dreg 14 [0, 0, 3, 0, 0, 31, 63, 127, 255, 511, 255, 2047, 4095, 8191, 16383, 32767, 32767, 131071, 32767, 32767, 1048575, 2097151, 4194303, 8388607, 16777215, 16777215, 67108863, 16777215, 16777215, 536870911, 1073741823, 2147483647, 4294967295, 8589934591, 8589934591, 8589934591, 68719476735, 8589934591, 8589934591, 8589934591, 1099511627775, 2199023255551, 4398046511103, 8796093022207] [⟨.load 25 (.v 3), .push, none, true, 0, none⟩,
    ⟨.load 25 (.v 4), .push, none, true, 1, none⟩,
    ⟨.call 19 [(.l 1), (.l 0)], .push, none, false, 2, (some 0)⟩,
    ⟨.load 25 (.v 3), .push, none, true, 3, none⟩,
    ⟨.load 25 (.v 4), .push, none, true, 4, none⟩,
    ⟨.call 20 [(.l 1), (.l 0)], .push, none, false, 5, (some 1)⟩,
    ⟨.call 15 [(.l 3), (.l 0)], .push, none, false, 6, (some 2)⟩,
    ⟨.load 25 (.v 3), .push, (some ((.l 0), true)), true, 8, none⟩,
    ⟨.call 22 [(.l 0)], .push, (some ((.l 1), true)), false, 9, (some 3)⟩,
    ⟨.load 25 (.v 3), .push, (some ((.l 2), true)), true, 10, none⟩,
    ⟨.call 23 [(.l 0)], .push, (some ((.l 3), true)), false, 11, (some 4)⟩,
    ⟨.call 21 [(.l 2), (.l 0)], .push, (some ((.l 4), true)), false, 12, (some 5)⟩,
    ⟨.pick (.l 5) (.l 0) (.k (.bool false)), .push, none, true, 13, none⟩,
    ⟨.load 25 (.v 3), .push, (some ((.l 0), true)), true, 15, none⟩,
    ⟨.mv (.v 6), .push, (some ((.l 1), true)), true, 16, none⟩,
    ⟨.call 24 [(.l 1), (.l 0)], .push, (some ((.l 2), true)), false, 17, (some 6)⟩,
    ⟨.load 25 (.v 3), .push, (some ((.l 3), true)), true, 18, none⟩,
    ⟨.mv (.v 6), .push, (some ((.l 4), true)), true, 19, none⟩,
    ⟨.call 25 [(.l 1), (.l 0)], .push, (some ((.l 5), true)), false, 20, (some 7)⟩,
    ⟨.call 15 [(.l 3), (.l 0)], .push, (some ((.l 6), true)), false, 21, (some 8)⟩,
    ⟨.pick (.l 7) (.l 0) (.k (.bool false)), .push, none, true, 22, none⟩,
    ⟨.load 25 (.v 3), .push, (some ((.l 0), true)), true, 24, none⟩,
    ⟨.mv (.v 2), .push, (some ((.l 1), true)), true, 25, none⟩,
    ⟨.call 26 [(.l 1), (.l 0)], .push, (some ((.l 2), true)), false, 26, (some 9)⟩,
    ⟨.load 25 (.v 3), .push, (some ((.l 3), true)), true, 27, none⟩,
    ⟨.mv (.v 2), .push, (some ((.l 4), true)), true, 28, none⟩,
    ⟨.call 27 [(.l 1), (.l 0)], .push, (some ((.l 5), true)), false, 29, (some 10)⟩,
    ⟨.bin .eql 3 false false (.l 3) (.l 0), .push, (some ((.l 6), true)), false, 30, none⟩,
    ⟨.pick (.l 7) (.l 0) (.k (.bool false)), .push, none, true, 31, none⟩,
    ⟨.load 25 (.v 3), .push, (some ((.l 0), true)), true, 33, none⟩,
    ⟨.mv (.v 2), .push, (some ((.l 1), true)), true, 34, none⟩,
    ⟨.mv (.v 5), .push, (some ((.l 2), true)), true, 35, none⟩,
    ⟨.call 28 [(.l 2), (.l 1), (.l 0)], .push, (some ((.l 3), true)), false, 36, (some 11)⟩,
    ⟨.load 25 (.v 3), .push, (some ((.l 4), true)), true, 37, none⟩,
    ⟨.mv (.v 2), .push, (some ((.l 5), true)), true, 38, none⟩,
    ⟨.mv (.v 5), .push, (some ((.l 6), true)), true, 39, none⟩,
    ⟨.call 29 [(.l 2), (.l 1), (.l 0)], .push, (some ((.l 7), true)), false, 40, (some 12)⟩,
    ⟨.call 15 [(.l 4), (.l 0)], .push, (some ((.l 8), true)), false, 41, (some 13)⟩,
    ⟨.pick (.l 9) (.l 0) (.k (.bool false)), .push, none, true, 42, none⟩,
    ⟨.mv (.l 0), (.var 7), none, true, 43, none⟩]) .ret)))))), [.tmp (.v 7)]⟩
noncomputable def G3 (E : Env) : ZFn := ⟨93, [0, 1, 4, 5, 6, 3, 2, 10], fun cy Y fuel =>
  (zSeq (zReg fun k => (zStep E (cy Y) ⟨.box 25 (.v 0), (.var 3), none, false, 0, (some 0)⟩) ((zStep E (cy Y) ⟨.box 25 (.v 1), (.var 4), none, false, 1, (some 1)⟩) ((zDst (.var 7) (vMv (.k (.bool false)))) k)))
  (zSeq (zSeq (zReg fun k => (zStep E (cy Y) ⟨.call 11 [], .push, none, false, 0, (some 0)⟩) ((zDst .push (vNot (.l 0))) k))
  (zCond (.l 0) (zSeq (zReg fun k => (zDst (.var 7) (vMv (.k (.bool false)))) k)
  zRet) zSkip))
  (zSeq (zSeq (zReg fun k => (zDst .push (vLenS (.v 2))) ((zDst .push (vInt E fGtr .gtr 3 false true (.l 0) (.k (.int .i64 40)))) k))
  (zCond (.l 0) (zSeq (zReg fun k => (zDst (.var 7) (vMv (.k (.bool true)))) k)
  zRet) zSkip))
  (zSeq (zSeq (zDreg 7 fun n0 k => (zDstWD [0, 1, 0, 7, 15, 31, 63, 63, 255, 63, 63, 2047, 4095, 8191, 16383, 32767, 65535, 32767, 262143, 524287, 1048575, 2097151] 0 .push (wLoad 2 true (.v 3))) ((zCallD (cy Y) [0, 1, 0, 7, 15, 31, 63, 63, 255, 63, 63, 2047, 4095, 8191, 16383, 32767, 65535, 32767, 262143, 524287, 1048575, 2097151] 1 12 [(.l 0)] .push) ((zDstWD [0, 1, 0, 7, 15, 31, 63, 63, 255, 63, 63, 2047, 4095, 8191, 16383, 32767, 65535, 32767, 262143, 524287, 1048575, 2097151] 2 .push (wLoad 2 true (.v 3))) ((zCallD (cy Y) [0, 1, 0, 7, 15, 31, 63, 63, 255, 63, 63, 2047, 4095, 8191, 16383, 32767, 65535, 32767, 262143, 524287, 1048575, 2097151] 3 13 [(.l 0)] .push) ((fun k sp => zDst .push (vInt E fNeq .neq 4 false false (.l 2) (.l 0)) (k sp)) ((zGD (.l 0) false .push (zDstWD [0, 1, 0, 7, 15, 31, 63, 63, 255, 63, 63, 2047, 4095, 8191, 16383, 32767, 65535, 32767, 262143, 524287, 1048575, 2097151] 6 .push (wLoad 2 true (.v 3)))) ((zGD (.l 1) false .push (zDstWD [0, 1, 0, 7, 15, 31, 63, 63, 255, 63, 63, 2047, 4095, 8191, 16383, 32767, 65535, 32767, 262143, 524287, 1048575, 2097151] 7 .push (wLoad 2 true (.v 4)))) ((zGD (.l 2) false .push (zCallD (cy Y) [0, 1, 0, 7, 15, 31, 63, 63, 255, 63, 63, 2047, 4095, 8191, 16383, 32767, 65535, 32767, 262143, 524287, 1048575, 2097151] 8 14 [(.l 1), (.l 0)] .push)) ((zGD (.l 3) false .push (zDstWD [0, 1, 0, 7, 15, 31, 63, 63, 255, 63, 63, 2047, 4095, 8191, 16383, 32767, 65535, 32767, 262143, 524287, 1048575, 2097151] 9 .push (wLoad 2 true (.v 3)))) ((zGD (.l 4) false .push (zDstWD [0, 1, 0, 7, 15, 31, 63, 63, 255, 63, 63, 2047, 4095, 8191, 16383, 32767, 65535, 32767, 262143, 524287, 1048575, 2097151] 10 .push (wLoad 2 true (.v 4)))) ((zGD (.l 5) false .push (zCallD (cy Y) [0, 1, 0, 7, 15, 31, 63, 63, 255, 63, 63, 2047, 4095, 8191, 16383, 32767, 65535, 32767, 262143, 524287, 1048575, 2097151] 11 15 [(.l 1), (.l 0)] .push)) ((zGD (.l 6) false .push (fun k sp => zDst .push (vInt E fNeq .neq 4 false false (.l 3) (.l 0)) (k sp))) ((fun k sp => zDst .push (vPick (.l 7) (.k (.bool true)) (.l 0)) (k sp)) ((zGD (.l 0) false .push (fun k sp => zDst .push (vMv (.v 5)) (k sp))) ((zGD (.l 1) false .push (zCallD (cy Y) [0, 1, 0, 7, 15, 31, 63, 63, 255, 63, 63, 2047, 4095, 8191, 16383, 32767, 65535, 32767, 262143, 524287, 1048575, 2097151] 16 16 [(.l 0)] .push)) ((zGD (.l 2) false .push (fun k sp => zDst .push (vMv (.v 5)) (k sp))) ((zGD (.l 3) false .push (zCallD (cy Y) [0, 1, 0, 7, 15, 31, 63, 63, 255, 63, 63, 2047, 4095, 8191, 16383, 32767, 65535, 32767, 262143, 524287, 1048575, 2097151] 18 17 [(.l 0)] .push)) ((zGD (.l 4) false .push (zCallD (cy Y) [0, 1, 0, 7, 15, 31, 63, 63, 255, 63, 63, 2047, 4095, 8191, 16383, 32767, 65535, 32767, 262143, 524287, 1048575, 2097151] 19 15 [(.l 2), (.l 0)] .push)) ((zGD (.l 5) false .push (fun k sp => zDst .push (vNot (.l 0)) (k sp))) ((fun k sp => zDst .push (vPick (.l 6) (.k (.bool true)) (.l 0)) (k sp)) k))))))))))))))))))))
  (zCond (.l 0) (zSeq (zReg fun k => (zDst (.var 7) (vMv (.k (.bool false)))) k)
  zRet) zSkip))
  (zSeq (zSeq (zReg fun k => (zDstW .push (wLoad 2 true (.v 3))) ((zCall (cy Y) 13 [(.l 0)] .push) ((zDst .push (vNot (.l 0))) ((zG (.l 0) false .push (zDstW .push (wLoad 2 true (.v 4)))) ((zG (.l 1) false .push (zCall (cy Y) 13 [(.l 0)] .push)) ((zG (.l 2) false .push (zDst .push (vNot (.l 0)))) ((zDst .push (vPick (.l 3) (.k (.bool true)) (.l 0))) ((zG (.l 0) false .push (zDstW .push (wLoad 2 true (.v 3)))) ((zG (.l 1) false .push (zCall (cy Y) 18 [(.l 0)] .push)) ((zDst .push (vPick (.l 2) (.k (.bool true)) (.l 0))) k))))))))))
  (zCond (.l 0) (zSeq (zReg fun k => (zDst (.var 7) (vMv (.k (.bool true)))) k)
  zRet) zSkip))
  (zSeq (zDreg 14 fun n0 k => (zDstWD [0, 0, 3, 0, 0, 31, 63, 127, 255, 511, 255, 2047, 4095, 8191, 16383, 32767, 32767, 131071, 32767, 32767, 1048575, 2097151, 4194303, 8388607, 16777215, 16777215, 67108863, 16777215, 16777215, 536870911, 1073741823, 2147483647, 4294967295, 8589934591, 8589934591, 8589934591, 68719476735, 8589934591, 8589934591, 8589934591, 1099511627775, 2199023255551, 4398046511103, 8796093022207] 0 .push (wLoad 2 true (.v 3))) ((zDstWD [0, 0, 3, 0, 0, 31, 63, 127, 255, 511, 255, 2047, 4095, 8191, 16383, 32767, 32767, 131071, 32767, 32767, 1048575, 2097151, 4194303, 8388607, 16777215, 16777215, 67108863, 16777215, 16777215, 536870911, 1073741823, 2147483647, 4294967295, 8589934591, 8589934591, 8589934591, 68719476735, 8589934591, 8589934591, 8589934591, 1099511627775, 2199023255551, 4398046511103, 8796093022207] 1 .push (wLoad 2 true (.v 4))) ((zCallD (cy Y) [0, 0, 3, 0, 0, 31, 63, 127, 255, 511, 255, 2047, 4095, 8191, 16383, 32767, 32767, 131071, 32767, 32767, 1048575, 2097151, 4194303, 8388607, 16777215, 16777215, 67108863, 16777215, 16777215, 536870911, 1073741823, 2147483647, 4294967295, 8589934591, 8589934591, 8589934591, 68719476735, 8589934591, 8589934591, 8589934591, 1099511627775, 2199023255551, 4398046511103, 8796093022207] 2 19 [(.l 1), (.l 0)] .push) ((zDstWD [0, 0, 3, 0, 0, 31, 63, 127, 255, 511, 255, 2047, 4095, 8191, 16383, 32767, 32767, 131071, 32767, 32767, 1048575, 2097151, 4194303, 8388607, 16777215, 16777215, 67108863, 16777215, 16777215, 536870911, 1073741823, 2147483647, 4294967295, 8589934591, 8589934591, 8589934591, 68719476735, 8589934591, 8589934591, 8589934591, 1099511627775, 2199023255551, 4398046511103, 8796093022207] 3 .push (wLoad 2 true (.v 3))) ((zDstWD [0, 0, 3, 0, 0, 31, 63, 127, 255, 511, 255, 2047, 4095, 8191, 16383, 32767, 32767, 131071, 32767, 32767, 1048575, 2097151, 4194303, 8388607, 16777215, 16777215, 67108863, 16777215, 16777215, 536870911, 1073741823, 2147483647, 4294967295, 8589934591, 8589934591, 8589934591, 68719476735, 8589934591, 8589934591, 8589934591, 1099511627775, 2199023255551, 4398046511103, 8796093022207] 4 .push (wLoad 2 true (.v 4))) ((zCallD (cy Y) [0, 0, 3, 0, 0, 31, 63, 127, 255, 511, 255, 2047, 4095, 8191, 16383, 32767, 32767, 131071, 32767, 32767, 1048575, 2097151, 4194303, 8388607, 16777215, 16777215, 67108863, 16777215, 16777215, 536870911, 1073741823, 2147483647, 4294967295, 8589934591, 8589934591, 8589934591, 68719476735, 8589934591, 8589934591, 8589934591, 1099511627775, 2199023255551, 4398046511103, 8796093022207] 5 20 [(.l 1), (.l 0)] .push) ((zCallD (cy Y) [0, 0, 3, 0, 0, 31, 63, 127, 255, 511, 255, 2047, 4095, 8191, 16383, 32767, 32767, 131071, 32767, 32767, 1048575, 2097151, 4194303, 8388607, 16777215, 16777215, 67108863, 16777215, 16777215, 536870911, 1073741823, 2147483647, 4294967295, 8589934591, 8589934591, 8589934591, 68719476735, 8589934591, 8589934591, 8589934591, 1099511627775, 2199023255551, 4398046511103, 8796093022207] 6 15 [(.l 3), (.l 0)] .push) ((zGD (.l 0) true .push (zDstWD [0, 0, 3, 0, 0, 31, 63, 127, 255, 511, 255, 2047, 4095, 8191, 16383, 32767, 32767, 131071, 32767, 32767, 1048575, 2097151, 4194303, 8388607, 16777215, 16777215, 67108863, 16777215, 16777215, 536870911, 1073741823, 2147483647, 4294967295, 8589934591, 8589934591, 8589934591, 68719476735, 8589934591, 8589934591, 8589934591, 1099511627775, 2199023255551, 4398046511103, 8796093022207] 8 .push (wLoad 2 true (.v 3)))) ((zGD (.l 1) true .push (zCallD (cy Y) [0, 0, 3, 0, 0, 31, 63, 127, 255, 511, 255, 2047, 4095, 8191, 16383, 32767, 32767, 131071, 32767, 32767, 1048575, 2097151, 4194303, 8388607, 16777215, 16777215, 67108863, 16777215, 16777215, 536870911, 1073741823, 2147483647, 4294967295, 8589934591, 8589934591, 8589934591, 68719476735, 8589934591, 8589934591, 8589934591, 1099511627775, 2199023255551, 4398046511103, 8796093022207] 9 22 [(.l 0)] .push)) ((zGD (.l 2) true .push (zDstWD [0, 0, 3, 0, 0, 31, 63, 127, 255, 511, 255, 2047, 4095, 8191, 16383, 32767, 32767, 131071, 32767, 32767, 1048575, 2097151, 4194303, 8388607, 16777215, 16777215, 67108863, 16777215, 16777215, 536870911, 1073741823, 2147483647, 4294967295, 8589934591, 8589934591, 8589934591, 68719476735, 8589934591, 8589934591, 8589934591, 1099511627775, 2199023255551, 4398046511103, 8796093022207] 10 .push (wLoad 2 true (.v 3)))) ((zGD (.l 3) true .push (zCallD (cy Y) [0, 0, 3, 0, 0, 31, 63, 127, 255, 511, 255, 2047, 4095, 8191, 16383, 32767, 32767, 131071, 32767, 32767, 1048575, 2097151, 4194303, 8388607, 16777215, 16777215, 67108863, 16777215, 16777215, 536870911, 1073741823, 2147483647, 4294967295, 8589934591, 8589934591, 8589934591, 68719476735, 8589934591, 8589934591, 8589934591, 1099511627775, 2199023255551, 4398046511103, 8796093022207] 11 23 [(.l 0)] .push)) ((zGD (.l 4) true .push (zCallD (cy Y) [0, 0, 3, 0, 0, 31, 63, 127, 255, 511, 255, 2047, 4095, 8191, 16383, 32767, 32767, 131071, 32767, 32767, 1048575, 2097151, 4194303, 8388607, 16777215, 16777215, 67108863, 16777215, 16777215, 536870911, 1073741823, 2147483647, 4294967295, 8589934591, 8589934591, 8589934591, 68719476735, 8589934591, 8589934591, 8589934591, 1099511627775, 2199023255551, 4398046511103, 8796093022207] 12 21 [(.l 2), (.l 0)] .push)) ((fun k sp => zDst .push (vPick (.l 5) (.l 0) (.k (.bool false))) (k sp)) ((zGD (.l 0) true .push (zDstWD [0, 0, 3, 0, 0, 31, 63, 127, 255, 511, 255, 2047, 4095, 8191, 16383, 32767, 32767, 131071, 32767, 32767, 1048575, 2097151, 4194303, 8388607, 16777215, 16777215, 67108863, 16777215, 16777215, 536870911, 1073741823, 2147483647, 4294967295, 8589934591, 8589934591, 8589934591, 68719476735, 8589934591, 8589934591, 8589934591, 1099511627775, 2199023255551, 4398046511103, 8796093022207] 15 .push (wLoad 2 true (.v 3)))) ((zGD (.l 1) true .push (fun k sp => zDst .push (vMv (.v 6)) (k sp))) ((zGD (.l 2) true .push (zCallD (cy Y) [0, 0, 3, 0, 0, 31, 63, 127, 255, 511, 255, 2047, 4095, 8191, 16383, 32767, 32767, 131071, 32767, 32767, 1048575, 2097151, 4194303, 8388607, 16777215, 16777215, 67108863, 16777215, 16777215, 536870911, 1073741823, 2147483647, 4294967295, 8589934591, 8589934591, 8589934591, 68719476735, 8589934591, 8589934591, 8589934591, 1099511627775, 2199023255551, 4398046511103, 8796093022207] 17 24 [(.l 1), (.l 0)] .push)) ((zGD (.l 3) true .push (zDstWD [0, 0, 3, 0, 0, 31, 63, 127, 255, 511, 255, 2047, 4095, 8191, 16383, 32767, 32767, 131071, 32767, 32767, 1048575, 2097151, 4194303, 8388607, 16777215, 16777215, 67108863, 16777215, 16777215, 536870911, 1073741823, 2147483647, 4294967295, 8589934591, 8589934591, 8589934591, 68719476735, 8589934591, 8589934591, 8589934591, 1099511627775, 2199023255551, 4398046511103, 8796093022207] 18 .push (wLoad 2 true (.v 3)))) ((zGD (.l 4) true .push (fun k sp => zDst .push (vMv (.v 6)) (k sp))) ((zGD (.l 5) true .push (zCallD (cy Y) [0, 0, 3, 0, 0, 31, 63, 127, 255, 511, 255, 2047, 4095, 8191, 16383, 32767, 32767, 131071, 32767, 32767, 1048575, 2097151, 4194303, 8388607, 16777215, 16777215, 67108863, 16777215, 16777215, 536870911, 1073741823, 2147483647, 4294967295, 8589934591, 8589934591, 8589934591, 68719476735, 8589934591, 8589934591, 8589934591, 1099511627775, 2199023255551, 4398046511103, 8796093022207] 20 25 [(.l 1), (.l 0)] .push)) ((zGD (.l 6) true .push (zCallD (cy Y) [0, 0, 3, 0, 0, 31, 63, 127, 255, 511, 255, 2047, 4095, 8191, 16383, 32767, 32767, 131071, 32767, 32767, 1048575, 2097151, 4194303, 8388607, 16777215, 16777215, 67108863, 16777215, 16777215, 536870911, 1073741823, 2147483647, 4294967295, 8589934591, 8589934591, 8589934591, 68719476735, 8589934591, 8589934591, 8589934591, 1099511627775, 2199023255551, 4398046511103, 8796093022207] 21 15 [(.l 3), (.l 0)] .push)) ((fun k sp => zDst .push (vPick (.l 7) (.l 0) (.k (.bool false))) (k sp)) ((zGD (.l 0) true .push (zDstWD [0, 0, 3, 0, 0, 31, 63, 127, 255, 511, 255, 2047, 4095, 8191, 16383, 32767, 32767, 131071, 32767, 32767, 1048575, 2097151, 4194303, 8388607, 16777215, 16777215, 67108863, 16777215, 16777215, 536870911, 1073741823, 2147483647, 4294967295, 8589934591, 8589934591, 8589934591, 68719476735, 8589934591, 8589934591, 8589934591, 1099511627775, 2199023255551, 4398046511103, 8796093022207] 24 .push (wLoad 2 true (.v 3)))) ((zGD (.l 1) true .push (fun k sp => zDst .push (vMv (.v 2)) (k sp))) ((zGD (.l 2) true .push (zCallD (cy Y) [0, 0, 3, 0, 0, 31, 63, 127, 255, 511, 255, 2047, 4095, 8191, 16383, 32767, 32767, 131071, 32767, 32767, 1048575, 2097151, 4194303, 8388607, 16777215, 16777215, 67108863, 16777215, 16777215, 536870911, 1073741823, 2147483647, 4294967295, 8589934591, 8589934591, 8589934591, 68719476735, 8589934591, 8589934591, 8589934591, 1099511627775, 2199023255551, 4398046511103, 8796093022207] 26 26 [(.l 1), (.l 0)] .push)) ((zGD (.l 3) true .push (zDstWD [0, 0, 3, 0, 0, 31, 63, 127, 255, 511, 255, 2047, 4095, 8191, 16383, 32767, 32767, 131071, 32767, 32767, 1048575, 2097151, 4194303, 8388607, 16777215, 16777215, 67108863, 16777215, 16777215, 536870911, 1073741823, 2147483647, 4294967295, 8589934591, 8589934591, 8589934591, 68719476735, 8589934591, 8589934591, 8589934591, 1099511627775, 2199023255551, 4398046511103, 8796093022207] 27 .push (wLoad 2 true (.v 3)))) ((zGD (.l 4) true .push (fun k sp => zDst .push (vMv (.v 2)) (k sp))) ((zGD (.l 5) true .push (zCallD (cy Y) [0, 0, 3, 0, 0, 31, 63, 127, 255, 511, 255, 2047, 4095, 8191, 16383, 32767, 32767, 131071, 32767, 32767, 1048575, 2097151, 4194303, 8388607, 16777215, 16777215, 67108863, 16777215, 16777215, 536870911, 1073741823, 2147483647, 4294967295, 8589934591, 8589934591, 8589934591, 68719476735, 8589934591, 8589934591, 8589934591, 1099511627775, 2199023255551, 4398046511103, 8796093022207] 29 27 [(.l 1), (.l 0)] .push)) ((zGD (.l 6) true .push (fun k sp => zDst .push (vInt E fEql .eql 3 false false (.l 3) (.l 0)) (k sp))) ((fun k sp => zDst .push (vPick (.l 7) (.l 0) (.k (.bool false))) (k sp)) ((zGD (.l 0) true .push (zDstWD [0, 0, 3, 0, 0, 31, 63, 127, 255, 511, 255, 2047, 4095, 8191, 16383, 32767, 32767, 131071, 32767, 32767, 1048575, 2097151, 4194303, 8388607, 16777215, 16777215, 67108863, 16777215, 16777215, 536870911, 1073741823, 2147483647, 4294967295, 8589934591, 8589934591, 8589934591, 68719476735, 8589934591, 8589934591, 8589934591, 1099511627775, 2199023255551, 4398046511103, 8796093022207] 33 .push (wLoad 2 true (.v 3)))) ((zGD (.l 1) true .push (fun k sp => zDst .push (vMv (.v 2)) (k sp))) ((zGD (.l 2) true .push (fun k sp => zDst .push (vMv (.v 5)) (k sp))) ((zGD (.l 3) true .push (zCallD (cy Y) [0, 0, 3, 0, 0, 31, 63, 127, 255, 511, 255, 2047, 4095, 8191, 16383, 32767, 32767, 131071, 32767, 32767, 1048575, 2097151, 4194303, 8388607, 16777215, 16777215, 67108863, 16777215, 16777215, 536870911, 1073741823, 2147483647, 4294967295, 8589934591, 8589934591, 8589934591, 68719476735, 8589934591, 8589934591, 8589934591, 1099511627775, 2199023255551, 4398046511103, 8796093022207] 36 28 [(.l 2), (.l 1), (.l 0)] .push)) ((zGD (.l 4) true .push (zDstWD [0, 0, 3, 0, 0, 31, 63, 127, 255, 511, 255, 2047, 4095, 8191, 16383, 32767, 32767, 131071, 32767, 32767, 1048575, 2097151, 4194303, 8388607, 16777215, 16777215, 67108863, 16777215, 16777215, 536870911, 1073741823, 2147483647, 4294967295, 8589934591, 8589934591, 8589934591, 68719476735, 8589934591, 8589934591, 8589934591, 1099511627775, 2199023255551, 4398046511103, 8796093022207] 37 .push (wLoad 2 true (.v 3)))) ((zGD (.l 5) true .push (fun k sp => zDst .push (vMv (.v 2)) (k sp))) ((zGD (.l 6) true .push (fun k sp => zDst .push (vMv (.v 5)) (k sp))) ((zGD (.l 7) true .push (zCallD (cy Y) [0, 0, 3, 0, 0, 31, 63, 127, 255, 511, 255, 2047, 4095, 8191, 16383, 32767, 32767, 131071, 32767, 32767, 1048575, 2097151, 4194303, 8388607, 16777215, 16777215, 67108863, 16777215, 16777215, 536870911, 1073741823, 2147483647, 4294967295, 8589934591, 8589934591, 8589934591, 68719476735, 8589934591, 8589934591, 8589934591, 1099511627775, 2199023255551, 4398046511103, 8796093022207] 40 29 [(.l 2), (.l 1), (.l 0)] .push)) ((zGD (.l 8) true .push (zCallD (cy Y) [0, 0, 3, 0, 0, 31, 63, 127, 255, 511, 255, 2047, 4095, 8191, 16383, 32767, 32767, 131071, 32767, 32767, 1048575, 2097151, 4194303, 8388607, 16777215, 16777215, 67108863, 16777215, 16777215, 536870911, 1073741823, 2147483647, 4294967295, 8589934591, 8589934591, 8589934591, 68719476735, 8589934591, 8589934591, 8589934591, 1099511627775, 2199023255551, 4398046511103, 8796093022207] 41 15 [(.l 4), (.l 0)] .push)) ((fun k sp => zDst .push (vPick (.l 9) (.l 0) (.k (.bool false))) (k sp)) ((fun k sp => zDst (.var 7) (vMv (.l 0)) (k sp)) k))))))))))))))))))))))))))))))))))))))))
  zRet)))))), [.tmp (.v 7)]⟩
theorem G3_ok (fn : Nat → Option Func) (pu : Nat → Bool) (pr : Nat → List AV → Option (Heap → Option (Eff × Acc))) : ZOk ⟨Try.tyT, fn, pu, pr⟩ npT F3 (G3 ⟨Try.tyT, fn, pu, pr⟩) := ⟨rfl, rfl, rfl, fun cy Y k => by kernel_rfl⟩
noncomputable def F4 : FFn := ⟨80, [2, 10, 0, 8, 7, 11, 1, 9, 12, 13, 6], (.seq (.reg [⟨.mv (.k (.bool false)), (.var 10), none, true, 0, none⟩]) (.seq (.seq (.reg [⟨.call 11 [], .push, none, false, 0, (some 0)⟩,
    ⟨.un .not (.l 0), .push, none, false, 1, none⟩]) (.cond (.l 0) (.seq (.reg [⟨.mv (.k (.bool false)), (.var 10), none, true, 0, none⟩]) .ret) .skip)) (.seq (.reg [⟨.bin .rem 5 false true (.v 0) (.k (.int .u8 4)), .push, none, false, 1, none⟩,
    ⟨.conv 5 3 (.l 0), .push, none, false, 2, none⟩,
    ⟨.mv (.l 0), (.var 4), none, true, 3, none⟩]) (.seq (.reg [⟨.build 25 [], .push, none, false, 0, none⟩,
    ⟨.build 25 [], .push, none, false, 1, none⟩,
    ⟨.alloc 25, (.var 3), none, false, 2, (some 0)⟩,
    ⟨.alloc 25, (.var 7), none, false, 3, (some 1)⟩,
    ⟨.store 25 (.v 3) (.l 1), .none, none, false, 4, none⟩,
    ⟨.store 25 (.v 7) (.l 0), .none, none, false, 5, none⟩]) (.seq (.seq (.reg [⟨.mv (.k (.int .i64 0)), (.var 1), none, true, 0, none⟩]) (.block 0 (.loop (.seq (.seq (.reg [⟨.bin .rem 5 false true (.v 2) (.k (.int .u8 9)), .push, none, false, 2, none⟩,
    ⟨.conv 5 3 (.l 0), .push, none, false, 3, none⟩,
    ⟨.bin .lss 3 false false (.v 1) (.l 0), .push, none, false, 4, none⟩]) (.cond (.l 0) .skip (.exit 0))) (.seq (.block 1 (.reg [⟨.load 25 (.v 3), .push, none, true, 0, none⟩,
    ⟨.call 24 [(.l 0), (.v 4)], .push, none, false, 2, (some 0)⟩,
    ⟨.store 25 (.v 3) (.l 0), .none, none, false, 3, none⟩])) (.reg [⟨.mv (.v 1), .push, none, true, 0, none⟩,
    ⟨.bin .add 3 false true (.l 0) (.k (.int .i64 1)), .push, none, false, 1, none⟩,
    ⟨.mv (.l 0), (.var 1), none, true, 2, none⟩])))))) (.seq (.seq (.reg [⟨.mv (.k (.int .i64 0)), (.var 5), none, true, 0, none⟩]) (.block 2 (.loop (.seq (.seq (.reg [⟨.bin .rem 5 false true (.v 6) (.k (.int .u8 9)), .push, none, false, 2, none⟩,
    ⟨.conv 5 3 (.l 0), .push, none, false, 3, none⟩,
    ⟨.bin .lss 3 false false (.v 5) (.l 0), .push, none, false, 4, none⟩]) (.cond (.l 0) .skip (.exit 2))) (.seq (.block 3 (.reg [⟨.load 25 (.v 7), .push, none, true, 0, none⟩,
    ⟨.call 24 [(.l 0), (.v 4)], .push, none, false, 2, (some 0)⟩,
    ⟨.store 25 (.v 7) (.l 0), .none, none, false, 3, none⟩])) (.reg [⟨.mv (.v 5), .push, none, true, 0, none⟩,
    ⟨.bin .add 3 false true (.l 0) (.k (.int .i64 1)), .push, none, false, 1, none⟩,
    ⟨.mv (.l 0), (.var 5), none, true, 2, none⟩])))))) (.seq (.reg [⟨.load 25 (.v 3), .push, none, true, 0, none⟩,
    ⟨.load 25 (.v 7), .push, none, true, 1, none⟩,
    ⟨.call 19 [(.l 1), (.l 0)], .push, none, false, 2, (some 0)⟩,
    ⟨.alloc 25, (.var 8), none, false, 3, (some 1)⟩,
    ⟨.store 25 (.v 8) (.l 0), .none, none, false, 4, none⟩]) (.seq (.reg [⟨.bin .rem 5 false true (.v 2) (.k (.int .u8 9)), .push, none, false, 1, none⟩,
    ⟨.bin .rem 5 false true (.v 6) (.k (.int .u8 9)), .push, none, false, 3, none⟩,
    ⟨.most true [(.l 1), (.l 0)], .push, none, false, 4, none⟩,
    ⟨.mv (.l 0), (.var 9), none, true, 5, none⟩]) (.seq (.dreg 8 [0, 1, 0, 7, 0, 16, 48, 112, 255, 511, 1023, 2047, 1023, 8191, 1023, 17407, 50175, 131071, 262143, 524287, 1048575, 2097151, 1048575, 8388607, 16777215, 33554431, 67108863, 134217727, 67108863, 536870911, 1073741823, 2147483647] [⟨.load 25 (.v 3), .push, none, true, 0, none⟩,
    ⟨.call 22 [(.l 0)], .push, none, false, 1, (some 0)⟩,
    ⟨.call 30 [(.l 0), (.v 4)], .push, none, false, 3, (some 1)⟩,
    ⟨.bin .rem 5 false true (.v 2) (.k (.int .u8 9)), .push, none, false, 5, none⟩,
    ⟨.bin .rem 5 false true (.l 0) (.k (.int .u8 2)), .push, none, false, 6, none⟩,
    ⟨.bin .eql 5 false true (.l 0) (.k (.int .u8 1)), .push, none, false, 7, none⟩,
    ⟨.bin .eql 4 false false (.l 3) (.l 0), .push, none, false, 8, none⟩,
    ⟨.load 25 (.v 8), .push, (some ((.l 0), true)), true, 10, none⟩,
    ⟨.call 22 [(.l 0)], .push, (some ((.l 1), true)), false, 11, (some 2)⟩,
    ⟨.mv (.v 4), .push, (some ((.l 2), true)), true, 12, none⟩,
    ⟨.call 30 [(.l 1), (.l 0)], .push, (some ((.l 3), true)), false, 13, (some 3)⟩,
    ⟨.mv (.v 9), .push, (some ((.l 4), true)), true, 14, none⟩,
    ⟨.bin .rem 5 false true (.l 0) (.k (.int .u8 2)), .push, (some ((.l 5), true)), false, 15, none⟩,
    ⟨.bin .eql 5 false true (.l 0) (.k (.int .u8 1)), .push, (some ((.l 6), true)), false, 16, none⟩,
    ⟨.bin .eql 4 false false (.l 3) (.l 0), .push, (some ((.l 7), true)), false, 17, none⟩,
    ⟨.pick (.l 8) (.l 0) (.k (.bool false)), .push, none, true, 18, none⟩,
    ⟨.load 25 (.v 3), .push, (some ((.l 0), true)), true, 20, none⟩,
    ⟨.call 24 [(.l 0), (.k (.int .i64 4))], .push, (some ((.l 1), true)), false, 21, (some 4)⟩,
    ⟨.load 25 (.v 3), .push, (some ((.l 2), true)), true, 22, none⟩,
    ⟨.call 14 [(.l 1), (.l 0)], .push, (some ((.l 3), true)), false, 23, (some 5)⟩,
    ⟨.pick (.l 4) (.l 0) (.k (.bool false)), .push, none, true, 24, none⟩,
    ⟨.load 25 (.v 3), .push, (some ((.l 0), true)), true, 26, none⟩,
    ⟨.call 24 [(.l 0), (.k (.int .i64 (-1)))], .push, (some ((.l 1), true)), false, 27, (some 6)⟩,
    ⟨.load 25 (.v 3), .push, (some ((.l 2), true)), true, 28, none⟩,
    ⟨.call 14 [(.l 1), (.l 0)], .push, (some ((.l 3), true)), false, 29, (some 7)⟩,
    ⟨.pick (.l 4) (.l 0) (.k (.bool false)), .push, none, true, 30, none⟩,
    ⟨.mv (.l 0), (.var 10), none, true, 31, none⟩]) .ret))))))))), [.tmp (.v 10)]⟩
noncomputable def G4 (E : Env) : ZFn := ⟨80, [2, 10, 0, 8, 7, 11, 1, 9, 12, 13, 6], fun cy Y fuel =>
  (zSeq (zReg fun k => (zDst (.var 10) (vMv (.k (.bool false)))) k)
  (zSeq (zSeq (zReg fun k => (zStep E (cy Y) ⟨.call 11 [], .push, none, false, 0, (some 0)⟩) ((zDst .push (vNot (.l 0))) k))
  (zCond (.l 0) (zSeq (zReg fun k => (zDst (.var 10) (vMv (.k (.bool false)))) k)
  zRet) zSkip))
  (zSeq (zReg fun k => (zDst .push (vInt E (fGen .rem) .rem 5 false true (.v 0) (.k (.int .u8 4)))) ((zDst .push (vConv .i64 (.l 0))) ((zDst (.var 4) (vMv (.l 0))) k)))
  (zSeq (zReg fun k => (zStep E (cy Y) ⟨.build 25 [], .push, none, false, 0, none⟩) ((zStep E (cy Y) ⟨.build 25 [], .push, none, false, 1, none⟩) ((zStep E (cy Y) ⟨.alloc 25, (.var 3), none, false, 2, (some 0)⟩) ((zStep E (cy Y) ⟨.alloc 25, (.var 7), none, false, 3, (some 1)⟩) ((zStep E (cy Y) ⟨.store 25 (.v 3) (.l 1), .none, none, false, 4, none⟩) ((zStep E (cy Y) ⟨.store 25 (.v 7) (.l 0), .none, none, false, 5, none⟩) k))))))
  (zSeq (zSeq (zReg fun k => (zDst (.var 1) (vMv (.k (.int .i64 0)))) k)
  (zBlock 0 (zLoop fuel (zSeq (zSeq (zReg fun k => (zDst .push (vInt E (fGen .rem) .rem 5 false true (.v 2) (.k (.int .u8 9)))) ((zDst .push (vConv .i64 (.l 0))) ((zDst .push (vInt E fLss .lss 3 false false (.v 1) (.l 0))) k)))
  (zCond (.l 0) zSkip (zExit 0)))
  (zSeq (zBlock 1 (zReg fun k => (zDstW .push (wLoad 2 true (.v 3))) ((zCall (cy Y) 24 [(.l 0), (.v 4)] .push) ((zStep E (cy Y) ⟨.store 25 (.v 3) (.l 0), .none, none, false, 3, none⟩) k))))
  (zReg fun k => (zDst .push (vMv (.v 1))) ((zDst .push (vInt E fAdd .add 3 false true (.l 0) (.k (.int .i64 1)))) ((zDst (.var 1) (vMv (.l 0))) k))))))))
  (zSeq (zSeq (zReg fun k => (zDst (.var 5) (vMv (.k (.int .i64 0)))) k)
  (zBlock 2 (zLoop fuel (zSeq (zSeq (zReg fun k => (zDst .push (vInt E (fGen .rem) .rem 5 false true (.v 6) (.k (.int .u8 9)))) ((zDst .push (vConv .i64 (.l 0))) ((zDst .push (vInt E fLss .lss 3 false false (.v 5) (.l 0))) k)))
  (zCond (.l 0) zSkip (zExit 2)))
  (zSeq (zBlock 3 (zReg fun k => (zDstW .push (wLoad 2 true (.v 7))) ((zCall (cy Y) 24 [(.l 0), (.v 4)] .push) ((zStep E (cy Y) ⟨.store 25 (.v 7) (.l 0), .none, none, false, 3, none⟩) k))))
  (zReg fun k => (zDst .push (vMv (.v 5))) ((zDst .push (vInt E fAdd .add 3 false true (.l 0) (.k (.int .i64 1)))) ((zDst (.var 5) (vMv (.l 0))) k))))))))
  (zSeq (zReg fun k => (zDstW .push (wLoad 2 true (.v 3))) ((zDstW .push (wLoad 2 true (.v 7))) ((zCall (cy Y) 19 [(.l 1), (.l 0)] .push) ((zStep E (cy Y) ⟨.alloc 25, (.var 8), none, false, 3, (some 1)⟩) ((zStep E (cy Y) ⟨.store 25 (.v 8) (.l 0), .none, none, false, 4, none⟩) k)))))
  (zSeq (zReg fun k => (zDst .push (vInt E (fGen .rem) .rem 5 false true (.v 2) (.k (.int .u8 9)))) ((zDst .push (vInt E (fGen .rem) .rem 5 false true (.v 6) (.k (.int .u8 9)))) ((zStep E (cy Y) ⟨.most true [(.l 1), (.l 0)], .push, none, false, 4, none⟩) ((zDst (.var 9) (vMv (.l 0))) k))))
  (zSeq (zDreg 8 fun n0 k => (zDstWD [0, 1, 0, 7, 0, 16, 48, 112, 255, 511, 1023, 2047, 1023, 8191, 1023, 17407, 50175, 131071, 262143, 524287, 1048575, 2097151, 1048575, 8388607, 16777215, 33554431, 67108863, 134217727, 67108863, 536870911, 1073741823, 2147483647] 0 .push (wLoad 2 true (.v 3))) ((zCallD (cy Y) [0, 1, 0, 7, 0, 16, 48, 112, 255, 511, 1023, 2047, 1023, 8191, 1023, 17407, 50175, 131071, 262143, 524287, 1048575, 2097151, 1048575, 8388607, 16777215, 33554431, 67108863, 134217727, 67108863, 536870911, 1073741823, 2147483647] 1 22 [(.l 0)] .push) ((zCallD (cy Y) [0, 1, 0, 7, 0, 16, 48, 112, 255, 511, 1023, 2047, 1023, 8191, 1023, 17407, 50175, 131071, 262143, 524287, 1048575, 2097151, 1048575, 8388607, 16777215, 33554431, 67108863, 134217727, 67108863, 536870911, 1073741823, 2147483647] 3 30 [(.l 0), (.v 4)] .push) ((fun k sp => zDst .push (vInt E (fGen .rem) .rem 5 false true (.v 2) (.k (.int .u8 9))) (k sp)) ((fun k sp => zDst .push (vInt E (fGen .rem) .rem 5 false true (.l 0) (.k (.int .u8 2))) (k sp)) ((fun k sp => zDst .push (vInt E fEql .eql 5 false true (.l 0) (.k (.int .u8 1))) (k sp)) ((fun k sp => zDst .push (vInt E fEql .eql 4 false false (.l 3) (.l 0)) (k sp)) ((zGD (.l 0) true .push (zDstWD [0, 1, 0, 7, 0, 16, 48, 112, 255, 511, 1023, 2047, 1023, 8191, 1023, 17407, 50175, 131071, 262143, 524287, 1048575, 2097151, 1048575, 8388607, 16777215, 33554431, 67108863, 134217727, 67108863, 536870911, 1073741823, 2147483647] 10 .push (wLoad 2 true (.v 8)))) ((zGD (.l 1) true .push (zCallD (cy Y) [0, 1, 0, 7, 0, 16, 48, 112, 255, 511, 1023, 2047, 1023, 8191, 1023, 17407, 50175, 131071, 262143, 524287, 1048575, 2097151, 1048575, 8388607, 16777215, 33554431, 67108863, 134217727, 67108863, 536870911, 1073741823, 2147483647] 11 22 [(.l 0)] .push)) ((zGD (.l 2) true .push (fun k sp => zDst .push (vMv (.v 4)) (k sp))) ((zGD (.l 3) true .push (zCallD (cy Y) [0, 1, 0, 7, 0, 16, 48, 112, 255, 511, 1023, 2047, 1023, 8191, 1023, 17407, 50175, 131071, 262143, 524287, 1048575, 2097151, 1048575, 8388607, 16777215, 33554431, 67108863, 134217727, 67108863, 536870911, 1073741823, 2147483647] 13 30 [(.l 1), (.l 0)] .push)) ((zGD (.l 4) true .push (fun k sp => zDst .push (vMv (.v 9)) (k sp))) ((zGD (.l 5) true .push (fun k sp => zDst .push (vInt E (fGen .rem) .rem 5 false true (.l 0) (.k (.int .u8 2))) (k sp))) ((zGD (.l 6) true .push (fun k sp => zDst .push (vInt E fEql .eql 5 false true (.l 0) (.k (.int .u8 1))) (k sp))) ((zGD (.l 7) true .push (fun k sp => zDst .push (vInt E fEql .eql 4 false false (.l 3) (.l 0)) (k sp))) ((fun k sp => zDst .push (vPick (.l 8) (.l 0) (.k (.bool false))) (k sp)) ((zGD (.l 0) true .push (zDstWD [0, 1, 0, 7, 0, 16, 48, 112, 255, 511, 1023, 2047, 1023, 8191, 1023, 17407, 50175, 131071, 262143, 524287, 1048575, 2097151, 1048575, 8388607, 16777215, 33554431, 67108863, 134217727, 67108863, 536870911, 1073741823, 2147483647] 20 .push (wLoad 2 true (.v 3)))) ((zGD (.l 1) true .push (zCallD (cy Y) [0, 1, 0, 7, 0, 16, 48, 112, 255, 511, 1023, 2047, 1023, 8191, 1023, 17407, 50175, 131071, 262143, 524287, 1048575, 2097151, 1048575, 8388607, 16777215, 33554431, 67108863, 134217727, 67108863, 536870911, 1073741823, 2147483647] 21 24 [(.l 0), (.k (.int .i64 4))] .push)) ((zGD (.l 2) true .push (zDstWD [0, 1, 0, 7, 0, 16, 48, 112, 255, 511, 1023, 2047, 1023, 8191, 1023, 17407, 50175, 131071, 262143, 524287, 1048575, 2097151, 1048575, 8388607, 16777215, 33554431, 67108863, 134217727, 67108863, 536870911, 1073741823, 2147483647] 22 .push (wLoad 2 true (.v 3)))) ((zGD (.l 3) true .push (zCallD (cy Y) [0, 1, 0, 7, 0, 16, 48, 112, 255, 511, 1023, 2047, 1023, 8191, 1023, 17407, 50175, 131071, 262143, 524287, 1048575, 2097151, 1048575, 8388607, 16777215, 33554431, 67108863, 134217727, 67108863, 536870911, 1073741823, 2147483647] 23 14 [(.l 1), (.l 0)] .push)) ((fun k sp => zDst .push (vPick (.l 4) (.l 0) (.k (.bool false))) (k sp)) ((zGD (.l 0) true .push (zDstWD [0, 1, 0, 7, 0, 16, 48, 112, 255, 511, 1023, 2047, 1023, 8191, 1023, 17407, 50175, 131071, 262143, 524287, 1048575, 2097151, 1048575, 8388607, 16777215, 33554431, 67108863, 134217727, 67108863, 536870911, 1073741823, 2147483647] 26 .push (wLoad 2 true (.v 3)))) ((zGD (.l 1) true .push (zCallD (cy Y) [0, 1, 0, 7, 0, 16, 48, 112, 255, 511, 1023, 2047, 1023, 8191, 1023, 17407, 50175, 131071, 262143, 524287, 1048575, 2097151, 1048575, 8388607, 16777215, 33554431, 67108863, 134217727, 67108863, 536870911, 1073741823, 2147483647] 27 24 [(.l 0), (.k (.int .i64 (-1)))] .push)) ((zGD (.l 2) true .push (zDstWD [0, 1, 0, 7, 0, 16, 48, 112, 255, 511, 1023, 2047, 1023, 8191, 1023, 17407, 50175, 131071, 262143, 524287, 1048575, 2097151, 1048575, 8388607, 16777215, 33554431, 67108863, 134217727, 67108863, 536870911, 1073741823, 2147483647] 28 .push (wLoad 2 true (.v 3)))) ((zGD (.l 3) true .push (zCallD (cy Y) [0, 1, 0, 7, 0, 16, 48, 112, 255, 511, 1023, 2047, 1023, 8191, 1023, 17407, 50175, 131071, 262143, 524287, 1048575, 2097151, 1048575, 8388607, 16777215, 33554431, 67108863, 134217727, 67108863, 536870911, 1073741823, 2147483647] 29 14 [(.l 1), (.l 0)] .push)) ((fun k sp => zDst .push (vPick (.l 4) (.l 0) (.k (.bool false))) (k sp)) ((fun k sp => zDst (.var 10) (vMv (.l 0)) (k sp)) k)))))))))))))))))))))))))))
  zRet))))))))), [.tmp (.v 10)]⟩
theorem G4_ok (fn : Nat → Option Func) (pu : Nat → Bool) (pr : Nat → List AV → Option (Heap → Option (Eff × Acc))) : ZOk ⟨Try.tyT, fn, pu, pr⟩ npT F4 (G4 ⟨Try.tyT, fn, pu, pr⟩) := ⟨rfl, rfl, rfl, fun cy Y k => by kernel_rfl⟩
noncomputable def F5 : FFn := ⟨93, [0, 9, 7, 1, 2, 8, 10, 11, 6], (.seq (.reg [⟨.mv (.k (.bool false)), (.var 8), none, true, 0, none⟩]) (.seq (.seq (.reg [⟨.call 11 [], .push, none, false, 0, (some 0)⟩,
    ⟨.un .not (.l 0), .push, none, false, 1, none⟩]) (.cond (.l 0) (.seq (.reg [⟨.mv (.k (.bool false)), (.var 8), none, true, 0, none⟩]) .ret) .skip)) (.seq (.seq (.reg [⟨.len 40 (.v 0), .push, none, false, 1, none⟩,
    ⟨.bin .gtr 3 false true (.l 0) (.k (.int .i64 20)), .push, none, false, 2, none⟩]) (.cond (.l 0) (.seq (.reg [⟨.mv (.k (.bool true)), (.var 8), none, true, 0, none⟩]) .ret) .skip)) (.seq (.reg [⟨.build 25 [], .push, none, false, 0, none⟩,
    ⟨.alloc 25, (.var 2), none, false, 1, (some 0)⟩,
    ⟨.store 25 (.v 2) (.l 0), .none, none, false, 2, none⟩]) (.seq (.reg [⟨.mv (.k (.int .i64 2)), (.var 5), none, true, 0, none⟩]) (.seq (.seq (.reg [⟨.mv (.k (.int .i64 0)), (.var 1), none, true, 0, none⟩]) (.block 0 (.loop (.seq (.seq (.reg [⟨.len 40 (.v 0), .push, none, false, 2, none⟩,
    ⟨.bin .lss 3 false false (.v 1) (.l 0), .push, none, false, 3, none⟩]) (.cond (.l 0) .skip (.exit 0))) (.seq (.block 1 (.seq (.dreg 1 [0, 0, 0, 6, 14, 30, 62, 127, 255] [⟨.load 25 (.v 2), .push, none, true, 0, none⟩,
    ⟨.indexAddr 40 (.v 0) (.v 1), .push, none, true, 3, none⟩,
    ⟨.load 5 (.l 0), .push, none, true, 4, none⟩,
    ⟨.bin .rem 5 false true (.l 0) (.k (.int .u8 5)), .push, none, false, 5, none⟩,
    ⟨.conv 5 3 (.l 0), .push, none, false, 6, none⟩,
    ⟨.call 28 [(.l 4), (.k (.str [109, 49])), (.l 0)], .push, none, false, 7, (some 0)⟩,
    ⟨.store 25 (.v 2) (.l 0), .none, none, false, 8, none⟩]) (.reg [⟨.indexAddr 40 (.v 0) (.v 1), .push, none, true, 2, none⟩,
    ⟨.load 5 (.l 0), .push, none, true, 3, none⟩,
    ⟨.bin .rem 5 false true (.l 0) (.k (.int .u8 5)), .push, none, false, 4, none⟩,
    ⟨.conv 5 3 (.l 0), .push, none, false, 5, none⟩,
    ⟨.most false [(.l 0), (.k (.int .i64 3))], .push, none, false, 6, none⟩,
    ⟨.most true [(.k (.int .i64 1)), (.l 0)], .push, none, false, 7, none⟩,
    ⟨.mv (.l 0), (.var 5), none, true, 8, none⟩]))) (.reg [⟨.mv (.v 1), .push, none, true, 0, none⟩,
    ⟨.bin .add 3 false true (.l 0) (.k (.int .i64 1)), .push, none, false, 1, none⟩,
    ⟨.mv (.l 0), (.var 1), none, true, 2, none⟩])))))) (.seq (.dreg 4 [0, 0, 2, 6, 14, 31, 0, 0, 128, 384, 896, 2047, 0, 0, 16383, 32767] [⟨.load 25 (.v 2), .push, none, true, 0, none⟩,
    ⟨.bin .rem 5 false true (.v 3) (.k (.int .u8 3)), .push, none, false, 2, none⟩,
    ⟨.conv 5 3 (.l 0), .push, none, false, 3, none⟩,
    ⟨.bin .add 3 false true (.l 0) (.k (.int .i64 1)), .push, none, false, 4, none⟩,
    ⟨.call 28 [(.l 3), (.k (.str [109, 49])), (.l 0)], .push, none, false, 5, (some 0)⟩,
    ⟨.load 25 (.v 2), .push, none, true, 6, none⟩,
    ⟨.bin .rem 5 false true (.v 4) (.k (.int .u8 3)), .push, none, false, 8, none⟩,
    ⟨.conv 5 3 (.l 0), .push, none, false, 9, none⟩,
    ⟨.bin .add 3 false true (.l 0) (.k (.int .i64 1)), .push, none, false, 10, none⟩,
    ⟨.call 28 [(.l 3), (.k (.str [109, 49])), (.l 0)], .push, none, false, 11, (some 1)⟩,
    ⟨.alloc 25, (.var 6), none, false, 12, (some 2)⟩,
    ⟨.alloc 25, (.var 7), none, false, 13, (some 3)⟩,
    ⟨.store 25 (.v 6) (.l 5), .none, none, false, 14, none⟩,
    ⟨.store 25 (.v 7) (.l 0), .none, none, false, 15, none⟩]) (.seq (.dreg 8 [0, 1, 0, 7, 15, 31, 31, 127, 255, 31, 543, 1567, 3615, 8191, 16383, 32767, 65535, 65535, 262143, 524287, 65535, 1114111, 3211263, 65535, 8454143, 25231359, 66125823, 133234687, 268435455, 536870911, 1073741823, 2147483647, 4294967295, 8589934591, 17179869183, 34359738367, 68719476735, 137438953471, 68719476735, 549755813887, 1099511627775, 2199023255551] [⟨.load 25 (.v 2), .push, none, true, 0, none⟩,
    ⟨.call 26 [(.l 0), (.k (.str [109, 49]))], .push, none, false, 1, (some 0)⟩,
    ⟨.bin .eql 3 false false (.l 0) (.v 5), .push, none, false, 3, none⟩,
    ⟨.load 25 (.v 6), .push, (some ((.l 0), true)), true, 5, none⟩,
    ⟨.load 25 (.v 2), .push, (some ((.l 1), true)), true, 6, none⟩,
    ⟨.call 19 [(.l 1), (.l 0)], .push, (some ((.l 2), true)), false, 7, (some 1)⟩,
    ⟨.call 26 [(.l 0), (.k (.str [109, 49]))], .push, (some ((.l 3), true)), false, 8, (some 2)⟩,
    ⟨.mv (.v 3), .push, (some ((.l 4), true)), true, 9, none⟩,
    ⟨.bin .rem 5 false true (.l 0) (.k (.int .u8 3)), .push, (some ((.l 5), true)), false, 10, none⟩,
    ⟨.conv 5 3 (.l 0), .push, (some ((.l 6), true)), false, 11, none⟩,
    ⟨.bin .add 3 false true (.l 0) (.k (.int .i64 1)), .push, (some ((.l 7), true)), false, 12, none⟩,
    ⟨.bin .eql 3 false false (.l 4) (.l 0), .push, (some ((.l 8), true)), false, 13, none⟩,
    ⟨.pick (.l 9) (.l 0) (.k (.bool false)), .push, none, true, 14, none⟩,
    ⟨.load 25 (.v 6), .push, (some ((.l 0), true)), true, 16, none⟩,
    ⟨.load 25 (.v 7), .push, (some ((.l 1), true)), true, 17, none⟩,
    ⟨.call 19 [(.l 1), (.l 0)], .push, (some ((.l 2), true)), false, 18, (some 3)⟩,
    ⟨.call 26 [(.l 0), (.k (.str [109, 49]))], .push, (some ((.l 3), true)), false, 19, (some 4)⟩,
    ⟨.mv (.v 3), .push, (some ((.l 4), true)), true, 20, none⟩,
    ⟨.bin .rem 5 false true (.l 0) (.k (.int .u8 3)), .push, (some ((.l 5), true)), false, 21, none⟩,
    ⟨.conv 5 3 (.l 0), .push, (some ((.l 6), true)), false, 22, none⟩,
    ⟨.mv (.v 4), .push, (some ((.l 7), true)), true, 23, none⟩,
    ⟨.bin .rem 5 false true (.l 0) (.k (.int .u8 3)), .push, (some ((.l 8), true)), false, 24, none⟩,
    ⟨.conv 5 3 (.l 0), .push, (some ((.l 9), true)), false, 25, none⟩,
    ⟨.most true [(.l 3), (.l 0)], .push, (some ((.l 10), true)), false, 26, none⟩,
    ⟨.bin .add 3 false true (.l 0) (.k (.int .i64 1)), .push, (some ((.l 11), true)), false, 27, none⟩,
    ⟨.bin .eql 3 false false (.l 8) (.l 0), .push, (some ((.l 12), true)), false, 28, none⟩,
    ⟨.pick (.l 13) (.l 0) (.k (.bool false)), .push, none, true, 29, none⟩,
    ⟨.load 25 (.v 2), .push, (some ((.l 0), true)), true, 31, none⟩,
    ⟨.call 26 [(.l 0), (.k (.str [109, 50]))], .push, (some ((.l 1), true)), false, 32, (some 5)⟩,
    ⟨.bin .eql 3 false true (.l 0) (.k (.int .i64 2)), .push, (some ((.l 2), true)), false, 33, none⟩,
    ⟨.pick (.l 3) (.l 0) (.k (.bool false)), .push, none, true, 34, none⟩,
    ⟨.load 25 (.v 2), .push, (some ((.l 0), true)), true, 36, none⟩,
    ⟨.call 28 [(.l 0), (.k (.str [])), (.k (.int .i64 2))], .push, (some ((.l 1), true)), false, 37, (some 6)⟩,
    ⟨.load 25 (.v 2), .push, (some ((.l 2), true)), true, 38, none⟩,
    ⟨.call 14 [(.l 1), (.l 0)], .push, (some ((.l 3), true)), false, 39, (some 7)⟩,
    ⟨.pick (.l 4) (.l 0) (.k (.bool false)), .push, none, true, 40, none⟩,
    ⟨.mv (.l 0), (.var 8), none, true, 41, none⟩]) .ret)))))))), [.tmp (.v 8)]⟩
noncomputable def G5 (E : Env) : ZFn := ⟨93, [0, 9, 7, 1, 2, 8, 10, 11, 6], fun cy Y fuel =>
  (zSeq (zReg fun k => (zDst (.var 8) (vMv (.k (.bool false)))) k)
  (zSeq (zSeq (zReg fun k => (zStep E (cy Y) ⟨.call 11 [], .push, none, false, 0, (some 0)⟩) ((zDst .push (vNot (.l 0))) k))
  (zCond (.l 0) (zSeq (zReg fun k => (zDst (.var 8) (vMv (.k (.bool false)))) k)
  zRet) zSkip))
  (zSeq (zSeq (zReg fun k => (zDst .push (vLenL (.v 0))) ((zDst .push (vInt E fGtr .gtr 3 false true (.l 0) (.k (.int .i64 20)))) k))
  (zCond (.l 0) (zSeq (zReg fun k => (zDst (.var 8) (vMv (.k (.bool true)))) k)
  zRet) zSkip))
  (zSeq (zReg fun k => (zStep E (cy Y) ⟨.build 25 [], .push, none, false, 0, none⟩) ((zStep E (cy Y) ⟨.alloc 25, (.var 2), none, false, 1, (some 0)⟩) ((zStep E (cy Y) ⟨.store 25 (.v 2) (.l 0), .none, none, false, 2, none⟩) k)))
  (zSeq (zReg fun k => (zDst (.var 5) (vMv (.k (.int .i64 2)))) k)
  (zSeq (zSeq (zReg fun k => (zDst (.var 1) (vMv (.k (.int .i64 0)))) k)
  (zBlock 0 (zLoop fuel (zSeq (zSeq (zReg fun k => (zDst .push (vLenL (.v 0))) ((zDst .push (vInt E fLss .lss 3 false false (.v 1) (.l 0))) k))
  (zCond (.l 0) zSkip (zExit 0)))
  (zSeq (zBlock 1 (zSeq (zDreg 1 fun n0 k => (zDstWD [0, 0, 0, 6, 14, 30, 62, 127, 255] 0 .push (wLoad 2 true (.v 2))) ((fun k sp => zDst .push (vIndexAddr 1 (.v 0) (.v 1)) (k sp)) ((zDstWD [0, 0, 0, 6, 14, 30, 62, 127, 255] 4 .push (wLoad 1 false (.l 0))) ((fun k sp => zDst .push (vInt E (fGen .rem) .rem 5 false true (.l 0) (.k (.int .u8 5))) (k sp)) ((fun k sp => zDst .push (vConv .i64 (.l 0)) (k sp)) ((zCallD (cy Y) [0, 0, 0, 6, 14, 30, 62, 127, 255] 7 28 [(.l 4), (.k (.str [109, 49])), (.l 0)] .push) ((zStepD E (cy Y) [0, 0, 0, 6, 14, 30, 62, 127, 255] n0 ⟨.store 25 (.v 2) (.l 0), .none, none, false, 8, none⟩) k)))))))
  (zReg fun k => (zDst .push (vIndexAddr 1 (.v 0) (.v 1))) ((zDstW .push (wLoad 1 false (.l 0))) ((zDst .push (vInt E (fGen .rem) .rem 5 false true (.l 0) (.k (.int .u8 5)))) ((zDst .push (vConv .i64 (.l 0))) ((zStep E (cy Y) ⟨.most false [(.l 0), (.k (.int .i64 3))], .push, none, false, 6, none⟩) ((zStep E (cy Y) ⟨.most true [(.k (.int .i64 1)), (.l 0)], .push, none, false, 7, none⟩) ((zDst (.var 5) (vMv (.l 0))) k)))))))))
  (zReg fun k => (zDst .push (vMv (.v 1))) ((zDst .push (vInt E fAdd .add 3 false true (.l 0) (.k (.int .i64 1)))) ((zDst (.var 1) (vMv (.l 0))) k))))))))
  (zSeq (zDreg 4 fun n0 k => (zDstWD [0, 0, 2, 6, 14, 31, 0, 0, 128, 384, 896, 2047, 0, 0, 16383, 32767] 0 .push (wLoad 2 true (.v 2))) ((fun k sp => zDst .push (vInt E (fGen .rem) .rem 5 false true (.v 3) (.k (.int .u8 3))) (k sp)) ((fun k sp => zDst .push (vConv .i64 (.l 0)) (k sp)) ((fun k sp => zDst .push (vInt E fAdd .add 3 false true (.l 0) (.k (.int .i64 1))) (k sp)) ((zCallD (cy Y) [0, 0, 2, 6, 14, 31, 0, 0, 128, 384, 896, 2047, 0, 0, 16383, 32767] 5 28 [(.l 3), (.k (.str [109, 49])), (.l 0)] .push) ((zDstWD [0, 0, 2, 6, 14, 31, 0, 0, 128, 384, 896, 2047, 0, 0, 16383, 32767] 6 .push (wLoad 2 true (.v 2))) ((fun k sp => zDst .push (vInt E (fGen .rem) .rem 5 false true (.v 4) (.k (.int .u8 3))) (k sp)) ((fun k sp => zDst .push (vConv .i64 (.l 0)) (k sp)) ((fun k sp => zDst .push (vInt E fAdd .add 3 false true (.l 0) (.k (.int .i64 1))) (k sp)) ((zCallD (cy Y) [0, 0, 2, 6, 14, 31, 0, 0, 128, 384, 896, 2047, 0, 0, 16383, 32767] 11 28 [(.l 3), (.k (.str [109, 49])), (.l 0)] .push) ((zStepD E (cy Y) [0, 0, 2, 6, 14, 31, 0, 0, 128, 384, 896, 2047, 0, 0, 16383, 32767] n0 ⟨.alloc 25, (.var 6), none, false, 12, (some 2)⟩) ((zStepD E (cy Y) [0, 0, 2, 6, 14, 31, 0, 0, 128, 384, 896, 2047, 0, 0, 16383, 32767] n0 ⟨.alloc 25, (.var 7), none, false, 13, (some 3)⟩) ((zStepD E (cy Y) [0, 0, 2, 6, 14, 31, 0, 0, 128, 384, 896, 2047, 0, 0, 16383, 32767] n0 ⟨.store 25 (.v 6) (.l 5), .none, none, false, 14, none⟩) ((zStepD E (cy Y) [0, 0, 2, 6, 14, 31, 0, 0, 128, 384, 896, 2047, 0, 0, 16383, 32767] n0 ⟨.store 25 (.v 7) (.l 0), .none, none, false, 15, none⟩) k))))))))))))))
  (zSeq (zDreg 8 fun n0 k => (zDstWD [0, 1, 0, 7, 15, 31, 31, 127, 255, 31, 543, 1567, 3615, 8191, 16383, 32767, 65535, 65535, 262143, 524287, 65535, 1114111, 3211263, 65535, 8454143, 25231359, 66125823, 133234687, 268435455, 536870911, 1073741823, 2147483647, 4294967295, 8589934591, 17179869183, 34359738367, 68719476735, 137438953471, 68719476735, 549755813887, 1099511627775, 2199023255551] 0 .push (wLoad 2 true (.v 2))) ((zCallD (cy Y) [0, 1, 0, 7, 15, 31, 31, 127, 255, 31, 543, 1567, 3615, 8191, 16383, 32767, 65535, 65535, 262143, 524287, 65535, 1114111, 3211263, 65535, 8454143, 25231359, 66125823, 133234687, 268435455, 536870911, 1073741823, 2147483647, 4294967295, 8589934591, 17179869183, 34359738367, 68719476735, 137438953471, 68719476735, 549755813887, 1099511627775, 2199023255551] 1 26 [(.l 0), (.k (.str [109, 49]))] .push) ((fun k sp => zDst .push (vInt E fEql .eql 3 false false (.l 0) (.v 5)) (k sp)) ((zGD (.l 0) true .push (zDstWD [0, 1, 0, 7, 15, 31, 31, 127, 255, 31, 543, 1567, 3615, 8191, 16383, 32767, 65535, 65535, 262143, 524287, 65535, 1114111, 3211263, 65535, 8454143, 25231359, 66125823, 133234687, 268435455, 536870911, 1073741823, 2147483647, 4294967295, 8589934591, 17179869183, 34359738367, 68719476735, 137438953471, 68719476735, 549755813887, 1099511627775, 2199023255551] 5 .push (wLoad 2 true (.v 6)))) ((zGD (.l 1) true .push (zDstWD [0, 1, 0, 7, 15, 31, 31, 127, 255, 31, 543, 1567, 3615, 8191, 16383, 32767, 65535, 65535, 262143, 524287, 65535, 1114111, 3211263, 65535, 8454143, 25231359, 66125823, 133234687, 268435455, 536870911, 1073741823, 2147483647, 4294967295, 8589934591, 17179869183, 34359738367, 68719476735, 137438953471, 68719476735, 549755813887, 1099511627775, 2199023255551] 6 .push (wLoad 2 true (.v 2)))) ((zGD (.l 2) true .push (zCallD (cy Y) [0, 1, 0, 7, 15, 31, 31, 127, 255, 31, 543, 1567, 3615, 8191, 16383, 32767, 65535, 65535, 262143, 524287, 65535, 1114111, 3211263, 65535, 8454143, 25231359, 66125823, 133234687, 268435455, 536870911, 1073741823, 2147483647, 4294967295, 8589934591, 17179869183, 34359738367, 68719476735, 137438953471, 68719476735, 549755813887, 1099511627775, 2199023255551] 7 19 [(.l 1), (.l 0)] .push)) ((zGD (.l 3) true .push (zCallD (cy Y) [0, 1, 0, 7, 15, 31, 31, 127, 255, 31, 543, 1567, 3615, 8191, 16383, 32767, 65535, 65535, 262143, 524287, 65535, 1114111, 3211263, 65535, 8454143, 25231359, 66125823, 133234687, 268435455, 536870911, 1073741823, 2147483647, 4294967295, 8589934591, 17179869183, 34359738367, 68719476735, 137438953471, 68719476735, 549755813887, 1099511627775, 2199023255551] 8 26 [(.l 0), (.k (.str [109, 49]))] .push)) ((zGD (.l 4) true .push (fun k sp => zDst .push (vMv (.v 3)) (k sp))) ((zGD (.l 5) true .push (fun k sp => zDst .push (vInt E (fGen .rem) .rem 5 false true (.l 0) (.k (.int .u8 3))) (k sp))) ((zGD (.l 6) true .push (fun k sp => zDst .push (vConv .i64 (.l 0)) (k sp))) ((zGD (.l 7) true .push (fun k sp => zDst .push (vInt E fAdd .add 3 false true (.l 0) (.k (.int .i64 1))) (k sp))) ((zGD (.l 8) true .push (fun k sp => zDst .push (vInt E fEql .eql 3 false false (.l 4) (.l 0)) (k sp))) ((fun k sp => zDst .push (vPick (.l 9) (.l 0) (.k (.bool false))) (k sp)) ((zGD (.l 0) true .push (zDstWD [0, 1, 0, 7, 15, 31, 31, 127, 255, 31, 543, 1567, 3615, 8191, 16383, 32767, 65535, 65535, 262143, 524287, 65535, 1114111, 3211263, 65535, 8454143, 25231359, 66125823, 133234687, 268435455, 536870911, 1073741823, 2147483647, 4294967295, 8589934591, 17179869183, 34359738367, 68719476735, 137438953471, 68719476735, 549755813887, 1099511627775, 2199023255551] 16 .push (wLoad 2 true (.v 6)))) ((zGD (.l 1) true .push (zDstWD [0, 1, 0, 7, 15, 31, 31, 127, 255, 31, 543, 1567, 3615, 8191, 16383, 32767, 65535, 65535, 262143, 524287, 65535, 1114111, 3211263, 65535, 8454143, 25231359, 66125823, 133234687, 268435455, 536870911, 1073741823, 2147483647, 4294967295, 8589934591, 17179869183, 34359738367, 68719476735, 137438953471, 68719476735, 549755813887, 1099511627775, 2199023255551] 17 .push (wLoad 2 true (.v 7)))) ((zGD (.l 2) true .push (zCallD (cy Y) [0, 1, 0, 7, 15, 31, 31, 127, 255, 31, 543, 1567, 3615, 8191, 16383, 32767, 65535, 65535, 262143, 524287, 65535, 1114111, 3211263, 65535, 8454143, 25231359, 66125823, 133234687, 268435455, 536870911, 1073741823, 2147483647, 4294967295, 8589934591, 17179869183, 34359738367, 68719476735, 137438953471, 68719476735, 549755813887, 1099511627775, 2199023255551] 18 19 [(.l 1), (.l 0)] .push)) ((zGD (.l 3) true .push (zCallD (cy Y) [0, 1, 0, 7, 15, 31, 31, 127, 255, 31, 543, 1567, 3615, 8191, 16383, 32767, 65535, 65535, 262143, 524287, 65535, 1114111, 3211263, 65535, 8454143, 25231359, 66125823, 133234687, 268435455, 536870911, 1073741823, 2147483647, 4294967295, 8589934591, 17179869183, 34359738367, 68719476735, 137438953471, 68719476735, 549755813887, 1099511627775, 2199023255551] 19 26 [(.l 0), (.k (.str [109, 49]))] .push)) ((zGD (.l 4) true .push (fun k sp => zDst .push (vMv (.v 3)) (k sp))) ((zGD (.l 5) true .push (fun k sp => zDst .push (vInt E (fGen .rem) .rem 5 false true (.l 0) (.k (.int .u8 3))) (k sp))) ((zGD (.l 6) true .push (fun k sp => zDst .push (vConv .i64 (.l 0)) (k sp))) ((zGD (.l 7) true .push (fun k sp => zDst .push (vMv (.v 4)) (k sp))) ((zGD (.l 8) true .push (fun k sp => zDst .push (vInt E (fGen .rem) .rem 5 false true (.l 0) (.k (.int .u8 3))) (k sp))) ((zGD (.l 9) true .push (fun k sp => zDst .push (vConv .i64 (.l 0)) (k sp))) ((zGD (.l 10) true .push (zStepD E (cy Y) [0, 1, 0, 7, 15, 31, 31, 127, 255, 31, 543, 1567, 3615, 8191, 16383, 32767, 65535, 65535, 262143, 524287, 65535, 1114111, 3211263, 65535, 8454143, 25231359, 66125823, 133234687, 268435455, 536870911, 1073741823, 2147483647, 4294967295, 8589934591, 17179869183, 34359738367, 68719476735, 137438953471, 68719476735, 549755813887, 1099511627775, 2199023255551] n0 ⟨.most true [(.l 3), (.l 0)], .push, none, false, 26, none⟩)) ((zGD (.l 11) true .push (fun k sp => zDst .push (vInt E fAdd .add 3 false true (.l 0) (.k (.int .i64 1))) (k sp))) ((zGD (.l 12) true .push (fun k sp => zDst .push (vInt E fEql .eql 3 false false (.l 8) (.l 0)) (k sp))) ((fun k sp => zDst .push (vPick (.l 13) (.l 0) (.k (.bool false))) (k sp)) ((zGD (.l 0) true .push (zDstWD [0, 1, 0, 7, 15, 31, 31, 127, 255, 31, 543, 1567, 3615, 8191, 16383, 32767, 65535, 65535, 262143, 524287, 65535, 1114111, 3211263, 65535, 8454143, 25231359, 66125823, 133234687, 268435455, 536870911, 1073741823, 2147483647, 4294967295, 8589934591, 17179869183, 34359738367, 68719476735, 137438953471, 68719476735, 549755813887, 1099511627775, 2199023255551] 31 .push (wLoad 2 true (.v 2)))) ((zGD (.l 1) true .push (zCallD (cy Y) [0, 1, 0, 7, 15, 31, 31, 127, 255, 31, 543, 1567, 3615, 8191, 16383, 32767, 65535, 65535, 262143, 524287, 65535, 1114111, 3211263, 65535, 8454143, 25231359, 66125823, 133234687, 268435455, 536870911, 1073741823, 2147483647, 4294967295, 8589934591, 17179869183, 34359738367, 68719476735, 137438953471, 68719476735, 549755813887, 1099511627775, 2199023255551] 32 26 [(.l 0), (.k (.str [109, 50]))] .push)) ((zGD (.l 2) true .push (fun k sp => zDst .push (vInt E fEql .eql 3 false true (.l 0) (.k (.int .i64 2))) (k sp))) ((fun k sp => zDst .push (vPick (.l 3) (.l 0) (.k (.bool false))) (k sp)) ((zGD (.l 0) true .push (zDstWD [0, 1, 0, 7, 15, 31, 31, 127, 255, 31, 543, 1567, 3615, 8191, 16383, 32767, 65535, 65535, 262143, 524287, 65535, 1114111, 3211263, 65535, 8454143, 25231359, 66125823, 133234687, 268435455, 536870911, 1073741823, 2147483647, 4294967295, 8589934591, 17179869183, 34359738367, 68719476735, 137438953471, 68719476735, 549755813887, 1099511627775, 2199023255551] 36 .push (wLoad 2 true (.v 2)))) ((zGD (.l 1) true .push (zCallD (cy Y) [0, 1, 0, 7, 15, 31, 31, 127, 255, 31, 543, 1567, 3615, 8191, 16383, 32767, 65535, 65535, 262143, 524287, 65535, 1114111, 3211263, 65535, 8454143, 25231359, 66125823, 133234687, 268435455, 536870911, 1073741823, 2147483647, 4294967295, 8589934591, 17179869183, 34359738367, 68719476735, 137438953471, 68719476735, 549755813887, 1099511627775, 2199023255551] 37 28 [(.l 0), (.k (.str [])), (.k (.int .i64 2))] .push)) ((zGD (.l 2) true .push (zDstWD [0, 1, 0, 7, 15, 31, 31, 127, 255, 31, 543, 1567, 3615, 8191, 16383, 32767, 65535, 65535, 262143, 524287, 65535, 1114111, 3211263, 65535, 8454143, 25231359, 66125823, 133234687, 268435455, 536870911, 1073741823, 2147483647, 4294967295, 8589934591, 17179869183, 34359738367, 68719476735, 137438953471, 68719476735, 549755813887, 1099511627775, 2199023255551] 38 .push (wLoad 2 true (.v 2)))) ((zGD (.l 3) true .push (zCallD (cy Y) [0, 1, 0, 7, 15, 31, 31, 127, 255, 31, 543, 1567, 3615, 8191, 16383, 32767, 65535, 65535, 262143, 524287, 65535, 1114111, 3211263, 65535, 8454143, 25231359, 66125823, 133234687, 268435455, 536870911, 1073741823, 2147483647, 4294967295, 8589934591, 17179869183, 34359738367, 68719476735, 137438953471, 68719476735, 549755813887, 1099511627775, 2199023255551] 39 14 [(.l 1), (.l 0)] .push)) ((fun k sp => zDst .push (vPick (.l 4) (.l 0) (.k (.bool false))) (k sp)) ((fun k sp => zDst (.var 8) (vMv (.l 0)) (k sp)) k)))))))))))))))))))))))))))))))))))))
  zRet)))))))), [.tmp (.v 8)]⟩
theorem G5_ok (fn : Nat → Option Func) (pu : Nat → Bool) (pr : Nat → List AV → Option (Heap → Option (Eff × Acc))) : ZOk ⟨Try.tyT, fn, pu, pr⟩ npT F5 (G5 ⟨Try.tyT, fn, pu, pr⟩) := ⟨rfl, rfl, rfl, fun cy Y k => by kernel_rfl⟩
noncomputable def F6 : FFn := ⟨55, [0, 1, 3, 4, 2, 10], (.seq (.reg [⟨.mv (.k (.bool false)), (.var 5), none, true, 0, none⟩]) (.seq (.seq (.reg [⟨.call 31 [], .push, none, false, 0, (some 0)⟩,
    ⟨.un .not (.l 0), .push, none, false, 1, none⟩]) (.cond (.l 0) (.seq (.reg [⟨.mv (.k (.bool false)), (.var 5), none, true, 0, none⟩]) .ret) .skip)) (.seq (.seq (.reg [⟨.len 32 (.v 0), .push, none, false, 1, none⟩,
    ⟨.bin .gtr 3 false true (.l 0) (.k (.int .i64 12)), .push, none, false, 2, none⟩,
    ⟨.mv (.v 1), .push, (some ((.l 0), false)), true, 4, none⟩,
    ⟨.len 9 (.l 0), .push, (some ((.l 1), false)), false, 5, none⟩,
    ⟨.bin .gtr 3 false true (.l 0) (.k (.int .i64 40)), .push, (some ((.l 2), false)), false, 6, none⟩,
    ⟨.pick (.l 3) (.k (.bool true)) (.l 0), .push, none, true, 7, none⟩]) (.cond (.l 0) (.seq (.reg [⟨.mv (.k (.bool true)), (.var 5), none, true, 0, none⟩]) .ret) .skip)) (.seq (.reg [⟨.call 32 [(.v 2), (.v 3)], .push, none, false, 2, (some 0)⟩,
    ⟨.call 33 [(.v 2), (.v 3)], .push, none, false, 5, (some 1)⟩,
    ⟨.bin .eql 42 false false (.l 1) (.l 0), .push, none, false, 6, none⟩,
    ⟨.mv (.v 1), .push, (some ((.l 0), true)), true, 8, none⟩,
    ⟨.call 34 [(.l 0)], .push, (some ((.l 1), true)), false, 9, (some 2)⟩,
    ⟨.mv (.v 1), .push, (some ((.l 2), true)), true, 10, none⟩,
    ⟨.call 35 [(.l 0)], .push, (some ((.l 3), true)), false, 11, (some 3)⟩,
    ⟨.bin .eql 42 false false (.l 2) (.l 0), .push, (some ((.l 4), true)), false, 12, none⟩,
    ⟨.pick (.l 5) (.l 0) (.k (.bool false)), .push, none, true, 13, none⟩,
    ⟨.mv (.v 0), .push, (some ((.l 0), true)), true, 15, none⟩,
    ⟨.mv (.v 1), .push, (some ((.l 1), true)), true, 16, none⟩,
    ⟨.call 36 [(.l 1), (.l 0)], .push, (some ((.l 2), true)), false, 17, (some 4)⟩,
    ⟨.mv (.v 0), .push, (some ((.l 3), true)), true, 18, none⟩,
    ⟨.mv (.v 1), .push, (some ((.l 4), true)), true, 19, none⟩,
    ⟨.call 37 [(.l 1), (.l 0)], .push, (some ((.l 5), true)), false, 20, (some 5)⟩,
    ⟨.call 21 [(.l 3), (.l 0)], .push, (some ((.l 6), true)), false, 21, (some 6)⟩,
    ⟨.pick (.l 7) (.l 0) (.k (.bool false)), .push, none, true, 22, none⟩,
    ⟨.mv (.v 0), .push, (some ((.l 0), true)), true, 24, none⟩,
    ⟨.mv (.v 1), .push, (some ((.l 1), true)), true, 25, none⟩,
    ⟨.mv (.v 4), .push, (some ((.l 2), true)), true, 26, none⟩,
    ⟨.call 38 [(.l 2), (.l 1), (.l 0)], .push, (some ((.l 3), true)), false, 27, (some 7)⟩,
    ⟨.mv (.v 0), .push, (some ((.l 4), true)), true, 28, none⟩,
    ⟨.mv (.v 1), .push, (some ((.l 5), true)), true, 29, none⟩,
    ⟨.mv (.v 4), .push, (some ((.l 6), true)), true, 30, none⟩,
    ⟨.call 39 [(.l 2), (.l 1), (.l 0)], .push, (some ((.l 7), true)), false, 31, (some 8)⟩,
    ⟨.call 21 [(.l 4), (.l 0)], .push, (some ((.l 8), true)), false, 32, (some 9)⟩,
    ⟨.pick (.l 9) (.l 0) (.k (.bool false)), .push, none, true, 33, none⟩,
    ⟨.mv (.l 0), (.var 5), none, true, 34, none⟩]) .ret)))), [.tmp (.v 5)]⟩
noncomputable def G6 (E : Env) : ZFn := ⟨55, [0, 1, 3, 4, 2, 10], fun cy Y fuel =>
  (zSeq (zReg fun k => (zDst (.var 5) (vMv (.k (.bool false)))) k)
  (zSeq (zSeq (zReg fun k => (zStep E (cy Y) ⟨.call 31 [], .push, none, false, 0, (some 0)⟩) ((zDst .push (vNot (.l 0))) k))
  (zCond (.l 0) (zSeq (zReg fun k => (zDst (.var 5) (vMv (.k (.bool false)))) k)
  zRet) zSkip))
  (zSeq (zSeq (zReg fun k => (zDst .push (vLenL (.v 0))) ((zDst .push (vInt E fGtr .gtr 3 false true (.l 0) (.k (.int .i64 12)))) ((zG (.l 0) false .push (zDst .push (vMv (.v 1)))) ((zG (.l 1) false .push (zDst .push (vLenS (.l 0)))) ((zG (.l 2) false .push (zDst .push (vInt E fGtr .gtr 3 false true (.l 0) (.k (.int .i64 40))))) ((zDst .push (vPick (.l 3) (.k (.bool true)) (.l 0))) k))))))
  (zCond (.l 0) (zSeq (zReg fun k => (zDst (.var 5) (vMv (.k (.bool true)))) k)
  zRet) zSkip))
  (zSeq (zReg fun k => (zCall (cy Y) 32 [(.v 2), (.v 3)] .push) ((zCall (cy Y) 33 [(.v 2), (.v 3)] .push) ((zDst .push (vInt E fEql .eql 42 false false (.l 1) (.l 0))) ((zG (.l 0) true .push (zDst .push (vMv (.v 1)))) ((zG (.l 1) true .push (zCall (cy Y) 34 [(.l 0)] .push)) ((zG (.l 2) true .push (zDst .push (vMv (.v 1)))) ((zG (.l 3) true .push (zCall (cy Y) 35 [(.l 0)] .push)) ((zG (.l 4) true .push (zDst .push (vInt E fEql .eql 42 false false (.l 2) (.l 0)))) ((zDst .push (vPick (.l 5) (.l 0) (.k (.bool false)))) ((zG (.l 0) true .push (zDst .push (vMv (.v 0)))) ((zG (.l 1) true .push (zDst .push (vMv (.v 1)))) ((zG (.l 2) true .push (zCall (cy Y) 36 [(.l 1), (.l 0)] .push)) ((zG (.l 3) true .push (zDst .push (vMv (.v 0)))) ((zG (.l 4) true .push (zDst .push (vMv (.v 1)))) ((zG (.l 5) true .push (zCall (cy Y) 37 [(.l 1), (.l 0)] .push)) ((zG (.l 6) true .push (zCall (cy Y) 21 [(.l 3), (.l 0)] .push)) ((zDst .push (vPick (.l 7) (.l 0) (.k (.bool false)))) ((zG (.l 0) true .push (zDst .push (vMv (.v 0)))) ((zG (.l 1) true .push (zDst .push (vMv (.v 1)))) ((zG (.l 2) true .push (zDst .push (vMv (.v 4)))) ((zG (.l 3) true .push (zCall (cy Y) 38 [(.l 2), (.l 1), (.l 0)] .push)) ((zG (.l 4) true .push (zDst .push (vMv (.v 0)))) ((zG (.l 5) true .push (zDst .push (vMv (.v 1)))) ((zG (.l 6) true .push (zDst .push (vMv (.v 4)))) ((zG (.l 7) true .push (zCall (cy Y) 39 [(.l 2), (.l 1), (.l 0)] .push)) ((zG (.l 8) true .push (zCall (cy Y) 21 [(.l 4), (.l 0)] .push)) ((zDst .push (vPick (.l 9) (.l 0) (.k (.bool false)))) ((zDst (.var 5) (vMv (.l 0))) k))))))))))))))))))))))))))))
  zRet)))), [.tmp (.v 5)]⟩
theorem G6_ok (fn : Nat → Option Func) (pu : Nat → Bool) (pr : Nat → List AV → Option (Heap → Option (Eff × Acc))) : ZOk ⟨Try.tyT, fn, pu, pr⟩ npT F6 (G6 ⟨Try.tyT, fn, pu, pr⟩) := ⟨rfl, rfl, rfl, fun cy Y k => by kernel_rfl⟩
noncomputable def F7 : FFn := ⟨121, [2, 1, 12, 0, 9, 10, 3, 11, 16, 14, 15, 20, 19, 18, 17, 13, 8], (.seq (.reg [⟨.mv (.k (.bool false)), (.var 16), none, true, 0, none⟩]) (.seq (.seq (.reg [⟨.call 31 [], .push, none, false, 0, (some 0)⟩,
    ⟨.un .not (.l 0), .push, none, false, 1, none⟩]) (.cond (.l 0) (.seq (.reg [⟨.mv (.k (.bool false)), (.var 16), none, true, 0, none⟩]) .ret) .skip)) (.seq (.seq (.reg [⟨.len 9 (.v 0), .push, none, false, 1, none⟩,
    ⟨.bin .gtr 3 false true (.l 0) (.k (.int .i64 40)), .push, none, false, 2, none⟩]) (.cond (.l 0) (.seq (.reg [⟨.mv (.k (.bool true)), (.var 16), none, true, 0, none⟩]) .ret) .skip)) (.seq (.reg [⟨.bin .rem 5 false true (.v 1) (.k (.int .u8 8)), .push, none, false, 1, none⟩,
    ⟨.conv 5 3 (.l 0), .push, none, false, 2, none⟩,
    ⟨.mv (.l 0), (.var 4), none, true, 3, none⟩]) (.seq (.reg [⟨.mv (.k (.sl 0 [] true)), (.var 5), none, true, 0, none⟩,
    ⟨.mv (.k (.sl 0 [] true)), (.var 7), none, true, 1, none⟩]) (.seq (.seq (.reg [⟨.mv (.k (.int .i64 0)), (.var 2), none, true, 0, none⟩]) (.block 0 (.loop (.seq (.seq (.reg [⟨.bin .lss 3 false true (.v 2) (.k (.int .i64 8)), .push, none, false, 1, none⟩]) (.cond (.l 0) .skip (.exit 0))) (.seq (.block 1 (.seq (.reg [⟨.conv 3 48 (.v 2), .push, none, false, 2, none⟩,
    ⟨.bin .shr 5 false false (.v 3) (.l 0), .push, none, false, 3, none⟩,
    ⟨.bin .and 5 false true (.l 0) (.k (.int .u8 1)), .push, none, false, 4, none⟩,
    ⟨.bin .eql 5 false true (.l 0) (.k (.int .u8 1)), .push, none, false, 5, none⟩,
    ⟨.mv (.v 2), .push, (some ((.l 0), true)), true, 7, none⟩,
    ⟨.mv (.v 4), .push, (some ((.l 1), true)), true, 8, none⟩,
    ⟨.bin .neq 3 false false (.l 1) (.l 0), .push, (some ((.l 2), true)), false, 9, none⟩,
    ⟨.pick (.l 3) (.l 0) (.k (.bool false)), .push, none, true, 10, none⟩]) (.cond (.l 0) (.reg [⟨.mv (.v 5), .push, none, true, 0, none⟩,
    ⟨.buildSlice 32 1 [(0, (.v 2))], .push, none, false, 2, (some 0)⟩,
    ⟨.append 32 32 (.l 1) (.l 0), .push, none, false, 3, (some 1)⟩,
    ⟨.mv (.l 0), (.var 5), none, true, 4, none⟩]) .skip))) (.reg [⟨.mv (.v 2), .push, none, true, 0, none⟩,
    ⟨.bin .add 3 false true (.l 0) (.k (.int .i64 1)), .push, none, false, 1, none⟩,
    ⟨.mv (.l 0), (.var 2), none, true, 2, none⟩])))))) (.seq (.reg [⟨.append 32 32 (.k (.sl 0 [] true)) (.v 5), .push, none, false, 1, (some 0)⟩,
    ⟨.buildSlice 32 1 [(0, (.v 4))], .push, none, false, 3, (some 1)⟩,
    ⟨.append 32 32 (.l 1) (.l 0), .push, none, false, 4, (some 2)⟩,
    ⟨.mv (.l 0), (.var 7), none, true, 5, none⟩]) (.seq (.seq (.reg []) (.cond (.v 6) (.reg [⟨.buildSlice 32 1 [(0, (.v 4))], .push, none, false, 1, (some 0)⟩,
    ⟨.append 32 32 (.l 0) (.v 5), .push, none, false, 3, (some 1)⟩,
    ⟨.mv (.l 0), (.var 7), none, true, 4, none⟩]) .skip)) (.seq (.reg [⟨.call 36 [(.v 5), (.v 0)], .push, none, false, 2, (some 0)⟩,
    ⟨.call 36 [(.v 7), (.v 0)], .push, none, false, 5, (some 1)⟩,
    ⟨.mv (.l 1), (.var 15), none, true, 6, none⟩,
    ⟨.mv (.l 0), (.var 9), none, true, 7, none⟩]) (.seq (.reg [⟨.mv (.k (.sl 0 [] true)), (.var 10), none, true, 0, none⟩]) (.seq (.seq (.reg [⟨.mv (.k (.int .i64 0)), (.var 8), none, true, 0, none⟩]) (.block 2 (.loop (.seq (.seq (.reg [⟨.len 32 (.v 9), .push, none, false, 2, none⟩,
    ⟨.bin .lss 3 false false (.v 8) (.l 0), .push, none, false, 3, none⟩]) (.cond (.l 0) .skip (.exit 2))) (.seq (.block 3 (.seq (.reg [⟨.indexAddr 32 (.v 9) (.v 8), .push, none, true, 2, none⟩,
    ⟨.load 3 (.l 0), .push, none, true, 3, none⟩,
    ⟨.bin .neq 3 false false (.l 0) (.v 4), .push, none, false, 5, none⟩]) (.cond (.l 0) (.reg [⟨.mv (.v 10), .push, none, true, 0, none⟩,
    ⟨.indexAddr 32 (.v 9) (.v 8), .push, none, true, 3, none⟩,
    ⟨.load 3 (.l 0), .push, none, true, 4, none⟩,
    ⟨.buildSlice 32 1 [(0, (.l 0))], .push, none, false, 5, (some 0)⟩,
    ⟨.append 32 32 (.l 3) (.l 0), .push, none, false, 6, (some 1)⟩,
    ⟨.mv (.l 0), (.var 10), none, true, 7, none⟩]) .skip))) (.reg [⟨.mv (.v 8), .push, none, true, 0, none⟩,
    ⟨.bin .add 3 false true (.l 0) (.k (.int .i64 1)), .push, none, false, 1, none⟩,
    ⟨.mv (.l 0), (.var 8), none, true, 2, none⟩])))))) (.seq (.reg [⟨.mv (.k (.int .i64 0)), (.var 14), none, true, 0, none⟩]) (.seq (.reg [⟨.call 38 [(.v 5), (.v 0), (.k (.int .i64 2))], .push, none, false, 2, (some 0)⟩,
    ⟨.call 38 [(.v 7), (.v 0), (.k (.int .i64 2))], .push, none, false, 5, (some 1)⟩,
    ⟨.mv (.l 1), (.var 13), none, true, 6, none⟩,
    ⟨.mv (.l 0), (.var 12), none, true, 7, none⟩]) (.seq (.seq (.reg [⟨.mv (.k (.int .i64 0)), (.var 11), none, true, 0, none⟩]) (.block 4 (.loop (.seq (.seq (.reg [⟨.len 32 (.v 12), .push, none, false, 2, none⟩,
    ⟨.bin .lss 3 false false (.v 11) (.l 0), .push, none, false, 3, none⟩]) (.cond (.l 0) .skip (.exit 4))) (.seq (.block 5 (.seq (.reg [⟨.indexAddr 32 (.v 12) (.v 11), .push, none, true, 3, none⟩,
    ⟨.load 3 (.l 0), .push, none, true, 4, none⟩,
    ⟨.call 30 [(.v 13), (.l 0)], .push, none, false, 5, (some 0)⟩,
    ⟨.un .not (.l 0), .push, none, false, 6, none⟩]) (.cond (.l 0) (.reg [⟨.mv (.v 14), .push, none, true, 0, none⟩,
    ⟨.bin .add 3 false true (.l 0) (.k (.int .i64 1)), .push, none, false, 1, none⟩,
    ⟨.mv (.l 0), (.var 14), none, true, 2, none⟩]) .skip))) (.reg [⟨.mv (.v 11), .push, none, true, 0, none⟩,
    ⟨.bin .add 3 false true (.l 0) (.k (.int .i64 1)), .push, none, false, 1, none⟩,
    ⟨.mv (.l 0), (.var 11), none, true, 2, none⟩])))))) (.seq (.reg [⟨.call 21 [(.v 15), (.v 10)], .push, none, false, 2, (some 0)⟩,
    ⟨.mv (.v 9), .push, (some ((.l 0), true)), true, 4, none⟩,
    ⟨.len 32 (.l 0), .push, (some ((.l 1), true)), false, 5, none⟩,
    ⟨.mv (.v 5), .push, (some ((.l 2), true)), true, 6, none⟩,
    ⟨.len 32 (.l 0), .push, (some ((.l 3), true)), false, 7, none⟩,
    ⟨.bin .add 3 false true (.l 0) (.k (.int .i64 1)), .push, (some ((.l 4), true)), false, 8, none⟩,
    ⟨.bin .eql 3 false false (.l 3) (.l 0), .push, (some ((.l 5), true)), false, 9, none⟩,
    ⟨.pick (.l 6) (.l 0) (.k (.bool false)), .push, none, true, 10, none⟩,
    ⟨.mv (.v 14), .push, (some ((.l 0), true)), true, 12, none⟩,
    ⟨.bin .leq 3 false true (.l 0) (.k (.int .i64 1)), .push, (some ((.l 1), true)), false, 13, none⟩,
    ⟨.pick (.l 2) (.l 0) (.k (.bool false)), .push, none, true, 14, none⟩,
    ⟨.pick (.l 0) (.k (.bool true)) (.k (.bool false)), .push, none, true, 16, none⟩,
    ⟨.mv (.l 0), (.var 16), none, true, 17, none⟩]) .ret))))))))))))))), [.tmp (.v 16)]⟩
noncomputable def G7 (E : Env) : ZFn := ⟨121, [2, 1, 12, 0, 9, 10, 3, 11, 16, 14, 15, 20, 19, 18, 17, 13, 8], fun cy Y fuel =>
  (zSeq (zReg fun k => (zDst (.var 16) (vMv (.k (.bool false)))) k)
  (zSeq (zSeq (zReg fun k => (zStep E (cy Y) ⟨.call 31 [], .push, none, false, 0, (some 0)⟩) ((zDst .push (vNot (.l 0))) k))
  (zCond (.l 0) (zSeq (zReg fun k => (zDst (.var 16) (vMv (.k (.bool false)))) k)
  zRet) zSkip))
  (zSeq (zSeq (zReg fun k => (zDst .push (vLenS (.v 0))) ((zDst .push (vInt E fGtr .gtr 3 false true (.l 0) (.k (.int .i64 40)))) k))
  (zCond (.l 0) (zSeq (zReg fun k => (zDst (.var 16) (vMv (.k (.bool true)))) k)
  zRet) zSkip))
  (zSeq (zReg fun k => (zDst .push (vInt E (fGen .rem) .rem 5 false true (.v 1) (.k (.int .u8 8)))) ((zDst .push (vConv .i64 (.l 0))) ((zDst (.var 4) (vMv (.l 0))) k)))
  (zSeq (zReg fun k => (zDst (.var 5) (vMv (.k (.sl 0 [] true)))) ((zDst (.var 7) (vMv (.k (.sl 0 [] true)))) k))
  (zSeq (zSeq (zReg fun k => (zDst (.var 2) (vMv (.k (.int .i64 0)))) k)
  (zBlock 0 (zLoop fuel (zSeq (zSeq (zReg fun k => (zDst .push (vInt E fLss .lss 3 false true (.v 2) (.k (.int .i64 8)))) k)
  (zCond (.l 0) zSkip (zExit 0)))
  (zSeq (zBlock 1 (zSeq (zReg fun k => (zDst .push (vConv .u64 (.v 2))) ((zDst .push (vBin E .shr 5 false false (.v 3) (.l 0))) ((zDst .push (vInt E (fGen .and) .and 5 false true (.l 0) (.k (.int .u8 1)))) ((zDst .push (vInt E fEql .eql 5 false true (.l 0) (.k (.int .u8 1)))) ((zG (.l 0) true .push (zDst .push (vMv (.v 2)))) ((zG (.l 1) true .push (zDst .push (vMv (.v 4)))) ((zG (.l 2) true .push (zDst .push (vInt E fNeq .neq 3 false false (.l 1) (.l 0)))) ((zDst .push (vPick (.l 3) (.l 0) (.k (.bool false)))) k))))))))
  (zCond (.l 0) (zReg fun k => (zDst .push (vMv (.v 5))) ((zStep E (cy Y) ⟨.buildSlice 32 1 [(0, (.v 2))], .push, none, false, 2, (some 0)⟩) ((zStep E (cy Y) ⟨.append 32 32 (.l 1) (.l 0), .push, none, false, 3, (some 1)⟩) ((zDst (.var 5) (vMv (.l 0))) k)))) zSkip)))
  (zReg fun k => (zDst .push (vMv (.v 2))) ((zDst .push (vInt E fAdd .add 3 false true (.l 0) (.k (.int .i64 1)))) ((zDst (.var 2) (vMv (.l 0))) k))))))))
  (zSeq (zReg fun k => (zStep E (cy Y) ⟨.append 32 32 (.k (.sl 0 [] true)) (.v 5), .push, none, false, 1, (some 0)⟩) ((zStep E (cy Y) ⟨.buildSlice 32 1 [(0, (.v 4))], .push, none, false, 3, (some 1)⟩) ((zStep E (cy Y) ⟨.append 32 32 (.l 1) (.l 0), .push, none, false, 4, (some 2)⟩) ((zDst (.var 7) (vMv (.l 0))) k))))
  (zSeq (zSeq (zReg fun k => k)
  (zCond (.v 6) (zReg fun k => (zStep E (cy Y) ⟨.buildSlice 32 1 [(0, (.v 4))], .push, none, false, 1, (some 0)⟩) ((zStep E (cy Y) ⟨.append 32 32 (.l 0) (.v 5), .push, none, false, 3, (some 1)⟩) ((zDst (.var 7) (vMv (.l 0))) k))) zSkip))
  (zSeq (zReg fun k => (zCall (cy Y) 36 [(.v 5), (.v 0)] .push) ((zCall (cy Y) 36 [(.v 7), (.v 0)] .push) ((zDst (.var 15) (vMv (.l 1))) ((zDst (.var 9) (vMv (.l 0))) k))))
  (zSeq (zReg fun k => (zDst (.var 10) (vMv (.k (.sl 0 [] true)))) k)
  (zSeq (zSeq (zReg fun k => (zDst (.var 8) (vMv (.k (.int .i64 0)))) k)
  (zBlock 2 (zLoop fuel (zSeq (zSeq (zReg fun k => (zDst .push (vLenL (.v 9))) ((zDst .push (vInt E fLss .lss 3 false false (.v 8) (.l 0))) k))
  (zCond (.l 0) zSkip (zExit 2)))
  (zSeq (zBlock 3 (zSeq (zReg fun k => (zDst .push (vIndexAddr 1 (.v 9) (.v 8))) ((zDstW .push (wLoad 1 false (.l 0))) ((zDst .push (vInt E fNeq .neq 3 false false (.l 0) (.v 4))) k)))
  (zCond (.l 0) (zReg fun k => (zDst .push (vMv (.v 10))) ((zDst .push (vIndexAddr 1 (.v 9) (.v 8))) ((zDstW .push (wLoad 1 false (.l 0))) ((zStep E (cy Y) ⟨.buildSlice 32 1 [(0, (.l 0))], .push, none, false, 5, (some 0)⟩) ((zStep E (cy Y) ⟨.append 32 32 (.l 3) (.l 0), .push, none, false, 6, (some 1)⟩) ((zDst (.var 10) (vMv (.l 0))) k)))))) zSkip)))
  (zReg fun k => (zDst .push (vMv (.v 8))) ((zDst .push (vInt E fAdd .add 3 false true (.l 0) (.k (.int .i64 1)))) ((zDst (.var 8) (vMv (.l 0))) k))))))))
  (zSeq (zReg fun k => (zDst (.var 14) (vMv (.k (.int .i64 0)))) k)
  (zSeq (zReg fun k => (zCall (cy Y) 38 [(.v 5), (.v 0), (.k (.int .i64 2))] .push) ((zCall (cy Y) 38 [(.v 7), (.v 0), (.k (.int .i64 2))] .push) ((zDst (.var 13) (vMv (.l 1))) ((zDst (.var 12) (vMv (.l 0))) k))))
  (zSeq (zSeq (zReg fun k => (zDst (.var 11) (vMv (.k (.int .i64 0)))) k)
  (zBlock 4 (zLoop fuel (zSeq (zSeq (zReg fun k => (zDst .push (vLenL (.v 12))) ((zDst .push (vInt E fLss .lss 3 false false (.v 11) (.l 0))) k))
  (zCond (.l 0) zSkip (zExit 4)))
  (zSeq (zBlock 5 (zSeq (zReg fun k => (zDst .push (vIndexAddr 1 (.v 12) (.v 11))) ((zDstW .push (wLoad 1 false (.l 0))) ((zCall (cy Y) 30 [(.v 13), (.l 0)] .push) ((zDst .push (vNot (.l 0))) k))))
  (zCond (.l 0) (zReg fun k => (zDst .push (vMv (.v 14))) ((zDst .push (vInt E fAdd .add 3 false true (.l 0) (.k (.int .i64 1)))) ((zDst (.var 14) (vMv (.l 0))) k))) zSkip)))
  (zReg fun k => (zDst .push (vMv (.v 11))) ((zDst .push (vInt E fAdd .add 3 false true (.l 0) (.k (.int .i64 1)))) ((zDst (.var 11) (vMv (.l 0))) k))))))))
  (zSeq (zReg fun k => (zCall (cy Y) 21 [(.v 15), (.v 10)] .push) ((zG (.l 0) true .push (zDst .push (vMv (.v 9)))) ((zG (.l 1) true .push (zDst .push (vLenL (.l 0)))) ((zG (.l 2) true .push (zDst .push (vMv (.v 5)))) ((zG (.l 3) true .push (zDst .push (vLenL (.l 0)))) ((zG (.l 4) true .push (zDst .push (vInt E fAdd .add 3 false true (.l 0) (.k (.int .i64 1))))) ((zG (.l 5) true .push (zDst .push (vInt E fEql .eql 3 false false (.l 3) (.l 0)))) ((zDst .push (vPick (.l 6) (.l 0) (.k (.bool false)))) ((zG (.l 0) true .push (zDst .push (vMv (.v 14)))) ((zG (.l 1) true .push (zDst .push (vInt E (fGen .leq) .leq 3 false true (.l 0) (.k (.int .i64 1))))) ((zDst .push (vPick (.l 2) (.l 0) (.k (.bool false)))) ((zDst .push (vPick (.l 0) (.k (.bool true)) (.k (.bool false)))) ((zDst (.var 16) (vMv (.l 0))) k)))))))))))))
  zRet))))))))))))))), [.tmp (.v 16)]⟩
theorem G7_ok (fn : Nat → Option Func) (pu : Nat → Bool) (pr : Nat → List AV → Option (Heap → Option (Eff × Acc))) : ZOk ⟨Try.tyT, fn, pu, pr⟩ npT F7 (G7 ⟨Try.tyT, fn, pu, pr⟩) := ⟨rfl, rfl, rfl, fun cy Y k => by kernel_rfl⟩
noncomputable def F8 : FFn := ⟨98, [1, 8, 0, 7, 9, 10, 2, 11, 12, 13, 6], (.seq (.reg [⟨.mv (.k (.bool false)), (.var 10), none, true, 0, none⟩]) (.seq (.seq (.reg [⟨.call 31 [], .push, none, false, 0, (some 0)⟩,
    ⟨.un .not (.l 0), .push, none, false, 1, none⟩]) (.cond (.l 0) (.seq (.reg [⟨.mv (.k (.bool false)), (.var 10), none, true, 0, none⟩]) .ret) .skip)) (.seq (.seq (.reg [⟨.len 9 (.v 0), .push, none, false, 1, none⟩,
    ⟨.bin .gtr 3 false true (.l 0) (.k (.int .i64 40)), .push, none, false, 2, none⟩]) (.cond (.l 0) (.seq (.reg [⟨.mv (.k (.bool true)), (.var 10), none, true, 0, none⟩]) .ret) .skip)) (.seq (.reg [⟨.mv (.k (.sl 0 [] true)), (.var 3), none, true, 0, none⟩]) (.seq (.seq (.reg [⟨.mv (.k (.int .i64 0)), (.var 1), none, true, 0, none⟩]) (.block 0 (.loop (.seq (.seq (.reg [⟨.bin .lss 3 false true (.v 1) (.k (.int .i64 8)), .push, none, false, 1, none⟩]) (.cond (.l 0) .skip (.exit 0))) (.seq (.block 1 (.seq (.reg [⟨.conv 3 48 (.v 1), .push, none, false, 2, none⟩,
    ⟨.bin .shr 5 false false (.v 2) (.l 0), .push, none, false, 3, none⟩,
    ⟨.bin .and 5 false true (.l 0) (.k (.int .u8 1)), .push, none, false, 4, none⟩,
    ⟨.bin .eql 5 false true (.l 0) (.k (.int .u8 1)), .push, none, false, 5, none⟩]) (.cond (.l 0) (.reg [⟨.mv (.v 3), .push, none, true, 0, none⟩,
    ⟨.buildSlice 32 1 [(0, (.v 1))], .push, none, false, 2, (some 0)⟩,
    ⟨.append 32 32 (.l 1) (.l 0), .push, none, false, 3, (some 1)⟩,
    ⟨.mv (.l 0), (.var 3), none, true, 4, none⟩]) .skip))) (.reg [⟨.mv (.v 1), .push, none, true, 0, none⟩,
    ⟨.bin .add 3 false true (.l 0) (.k (.int .i64 1)), .push, none, false, 1, none⟩,
    ⟨.mv (.l 0), (.var 1), none, true, 2, none⟩])))))) (.seq (.reg [⟨.append 32 32 (.k (.sl 0 [] true)) (.v 3), .push, none, false, 1, (some 0)⟩,
    ⟨.append 32 32 (.l 0) (.v 3), .push, none, false, 3, (some 1)⟩,
    ⟨.call 36 [(.l 0), (.v 0)], .push, none, false, 5, (some 2)⟩,
    ⟨.mv (.l 0), (.var 4), none, true, 6, none⟩]) (.seq (.seq (.reg [⟨.len 32 (.v 4), .push, none, false, 1, none⟩,
    ⟨.len 32 (.v 3), .push, none, false, 3, none⟩,
    ⟨.bin .neq 3 false false (.l 1) (.l 0), .push, none, false, 4, none⟩]) (.cond (.l 0) (.seq (.reg [⟨.mv (.k (.bool false)), (.var 10), none, true, 0, none⟩]) .ret) .skip)) (.seq (.seq (.reg [⟨.mv (.k (.int .i64 0)), (.var 5), none, true, 0, none⟩]) (.block 2 (.loop (.seq (.seq (.reg [⟨.len 32 (.v 3), .push, none, false, 2, none⟩,
    ⟨.bin .lss 3 false false (.v 5) (.l 0), .push, none, false, 3, none⟩]) (.cond (.l 0) .skip (.exit 2))) (.seq (.block 3 (.seq (.reg [⟨.indexAddr 32 (.v 3) (.v 5), .push, none, true, 3, none⟩,
    ⟨.load 3 (.l 0), .push, none, true, 4, none⟩,
    ⟨.call 30 [(.v 4), (.l 0)], .push, none, false, 5, (some 0)⟩,
    ⟨.un .not (.l 0), .push, none, false, 6, none⟩]) (.cond (.l 0) (.seq (.reg [⟨.mv (.k (.bool false)), (.var 10), none, true, 0, none⟩]) .ret) .skip))) (.reg [⟨.mv (.v 5), .push, none, true, 0, none⟩,
    ⟨.bin .add 3 false true (.l 0) (.k (.int .i64 1)), .push, none, false, 1, none⟩,
    ⟨.mv (.l 0), (.var 5), none, true, 2, none⟩])))))) (.seq (.reg [⟨.bin .rem 5 false true (.v 6) (.k (.int .u8 10)), .push, none, false, 1, none⟩,
    ⟨.conv 5 3 (.l 0), .push, none, false, 2, none⟩,
    ⟨.mv (.l 0), (.var 7), none, true, 3, none⟩]) (.seq (.reg [⟨.call 38 [(.v 3), (.v 0), (.v 7)], .push, none, false, 3, (some 0)⟩,
    ⟨.bin .add 3 false true (.v 7) (.k (.int .i64 1)), .push, none, false, 7, none⟩,
    ⟨.call 38 [(.v 3), (.v 0), (.l 0)], .push, none, false, 8, (some 1)⟩,
    ⟨.mv (.l 2), (.var 8), none, true, 9, none⟩,
    ⟨.mv (.l 0), (.var 9), none, true, 10, none⟩]) (.seq (.reg [⟨.len 32 (.v 8), .push, none, false, 1, none⟩,
    ⟨.len 32 (.v 3), .push, none, false, 4, none⟩,
    ⟨.most false [(.v 7), (.l 0)], .push, none, false, 5, none⟩,
    ⟨.bin .eql 3 false false (.l 2) (.l 0), .push, none, false, 6, none⟩,
    ⟨.mv (.v 9), .push, (some ((.l 0), true)), true, 8, none⟩,
    ⟨.len 32 (.l 0), .push, (some ((.l 1), true)), false, 9, none⟩,
    ⟨.mv (.v 8), .push, (some ((.l 2), true)), true, 10, none⟩,
    ⟨.len 32 (.l 0), .push, (some ((.l 3), true)), false, 11, none⟩,
    ⟨.bin .geq 3 false false (.l 2) (.l 0), .push, (some ((.l 4), true)), false, 12, none⟩,
    ⟨.pick (.l 5) (.l 0) (.k (.bool false)), .push, none, true, 13, none⟩,
    ⟨.mv (.v 8), .push, (some ((.l 0), true)), true, 15, none⟩,
    ⟨.mv (.v 9), .push, (some ((.l 1), true)), true, 16, none⟩,
    ⟨.mv (.v 8), .push, (some ((.l 2), true)), true, 17, none⟩,
    ⟨.len 32 (.l 0), .push, (some ((.l 3), true)), false, 18, none⟩,
    ⟨.slice 32 (.l 2) none (some (.l 0)) none, .push, (some ((.l 4), true)), false, 19, none⟩,
    ⟨.call 21 [(.l 4), (.l 0)], .push, (some ((.l 5), true)), false, 20, (some 0)⟩,
    ⟨.pick (.l 6) (.l 0) (.k (.bool false)), .push, none, true, 21, none⟩,
    ⟨.mv (.v 3), .push, (some ((.l 0), true)), true, 23, none⟩,
    ⟨.mv (.v 0), .push, (some ((.l 1), true)), true, 24, none⟩,
    ⟨.call 38 [(.l 1), (.l 0), (.k (.int .i64 (-1)))], .push, (some ((.l 2), true)), false, 25, (some 1)⟩,
    ⟨.len 32 (.l 0), .push, (some ((.l 3), true)), false, 26, none⟩,
    ⟨.bin .eql 3 false true (.l 0) (.k (.int .i64 0)), .push, (some ((.l 4), true)), false, 27, none⟩,
    ⟨.pick (.l 5) (.l 0) (.k (.bool false)), .push, none, true, 28, none⟩,
    ⟨.mv (.l 0), (.var 10), none, true, 29, none⟩]) .ret))))))))))), [.tmp (.v 10)]⟩
noncomputable def G8 (E : Env) : ZFn := ⟨98, [1, 8, 0, 7, 9, 10, 2, 11, 12, 13, 6], fun cy Y fuel =>
  (zSeq (zReg fun k => (zDst (.var 10) (vMv (.k (.bool false)))) k)
  (zSeq (zSeq (zReg fun k => (zStep E (cy Y) ⟨.call 31 [], .push, none, false, 0, (some 0)⟩) ((zDst .push (vNot (.l 0))) k))
  (zCond (.l 0) (zSeq (zReg fun k => (zDst (.var 10) (vMv (.k (.bool false)))) k)
  zRet) zSkip))
  (zSeq (zSeq (zReg fun k => (zDst .push (vLenS (.v 0))) ((zDst .push (vInt E fGtr .gtr 3 false true (.l 0) (.k (.int .i64 40)))) k))
  (zCond (.l 0) (zSeq (zReg fun k => (zDst (.var 10) (vMv (.k (.bool true)))) k)
  zRet) zSkip))
  (zSeq (zReg fun k => (zDst (.var 3) (vMv (.k (.sl 0 [] true)))) k)
  (zSeq (zSeq (zReg fun k => (zDst (.var 1) (vMv (.k (.int .i64 0)))) k)
  (zBlock 0 (zLoop fuel (zSeq (zSeq (zReg fun k => (zDst .push (vInt E fLss .lss 3 false true (.v 1) (.k (.int .i64 8)))) k)
  (zCond (.l 0) zSkip (zExit 0)))
  (zSeq (zBlock 1 (zSeq (zReg fun k => (zDst .push (vConv .u64 (.v 1))) ((zDst .push (vBin E .shr 5 false false (.v 2) (.l 0))) ((zDst .push (vInt E (fGen .and) .and 5 false true (.l 0) (.k (.int .u8 1)))) ((zDst .push (vInt E fEql .eql 5 false true (.l 0) (.k (.int .u8 1)))) k))))
  (zCond (.l 0) (zReg fun k => (zDst .push (vMv (.v 3))) ((zStep E (cy Y) ⟨.buildSlice 32 1 [(0, (.v 1))], .push, none, false, 2, (some 0)⟩) ((zStep E (cy Y) ⟨.append 32 32 (.l 1) (.l 0), .push, none, false, 3, (some 1)⟩) ((zDst (.var 3) (vMv (.l 0))) k)))) zSkip)))
  (zReg fun k => (zDst .push (vMv (.v 1))) ((zDst .push (vInt E fAdd .add 3 false true (.l 0) (.k (.int .i64 1)))) ((zDst (.var 1) (vMv (.l 0))) k))))))))
  (zSeq (zReg fun k => (zStep E (cy Y) ⟨.append 32 32 (.k (.sl 0 [] true)) (.v 3), .push, none, false, 1, (some 0)⟩) ((zStep E (cy Y) ⟨.append 32 32 (.l 0) (.v 3), .push, none, false, 3, (some 1)⟩) ((zCall (cy Y) 36 [(.l 0), (.v 0)] .push) ((zDst (.var 4) (vMv (.l 0))) k))))
  (zSeq (zSeq (zReg fun k => (zDst .push (vLenL (.v 4))) ((zDst .push (vLenL (.v 3))) ((zDst .push (vInt E fNeq .neq 3 false false (.l 1) (.l 0))) k)))
  (zCond (.l 0) (zSeq (zReg fun k => (zDst (.var 10) (vMv (.k (.bool false)))) k)
  zRet) zSkip))
  (zSeq (zSeq (zReg fun k => (zDst (.var 5) (vMv (.k (.int .i64 0)))) k)
  (zBlock 2 (zLoop fuel (zSeq (zSeq (zReg fun k => (zDst .push (vLenL (.v 3))) ((zDst .push (vInt E fLss .lss 3 false false (.v 5) (.l 0))) k))
  (zCond (.l 0) zSkip (zExit 2)))
  (zSeq (zBlock 3 (zSeq (zReg fun k => (zDst .push (vIndexAddr 1 (.v 3) (.v 5))) ((zDstW .push (wLoad 1 false (.l 0))) ((zCall (cy Y) 30 [(.v 4), (.l 0)] .push) ((zDst .push (vNot (.l 0))) k))))
  (zCond (.l 0) (zSeq (zReg fun k => (zDst (.var 10) (vMv (.k (.bool false)))) k)
  zRet) zSkip)))
  (zReg fun k => (zDst .push (vMv (.v 5))) ((zDst .push (vInt E fAdd .add 3 false true (.l 0) (.k (.int .i64 1)))) ((zDst (.var 5) (vMv (.l 0))) k))))))))
  (zSeq (zReg fun k => (zDst .push (vInt E (fGen .rem) .rem 5 false true (.v 6) (.k (.int .u8 10)))) ((zDst .push (vConv .i64 (.l 0))) ((zDst (.var 7) (vMv (.l 0))) k)))
  (zSeq (zReg fun k => (zCall (cy Y) 38 [(.v 3), (.v 0), (.v 7)] .push) ((zDst .push (vInt E fAdd .add 3 false true (.v 7) (.k (.int .i64 1)))) ((zCall (cy Y) 38 [(.v 3), (.v 0), (.l 0)] .push) ((zDst (.var 8) (vMv (.l 2))) ((zDst (.var 9) (vMv (.l 0))) k)))))
  (zSeq (zReg fun k => (zDst .push (vLenL (.v 8))) ((zDst .push (vLenL (.v 3))) ((zStep E (cy Y) ⟨.most false [(.v 7), (.l 0)], .push, none, false, 5, none⟩) ((zDst .push (vInt E fEql .eql 3 false false (.l 2) (.l 0))) ((zG (.l 0) true .push (zDst .push (vMv (.v 9)))) ((zG (.l 1) true .push (zDst .push (vLenL (.l 0)))) ((zG (.l 2) true .push (zDst .push (vMv (.v 8)))) ((zG (.l 3) true .push (zDst .push (vLenL (.l 0)))) ((zG (.l 4) true .push (zDst .push (vInt E (fGen .geq) .geq 3 false false (.l 2) (.l 0)))) ((zDst .push (vPick (.l 5) (.l 0) (.k (.bool false)))) ((zG (.l 0) true .push (zDst .push (vMv (.v 8)))) ((zG (.l 1) true .push (zDst .push (vMv (.v 9)))) ((zG (.l 2) true .push (zDst .push (vMv (.v 8)))) ((zG (.l 3) true .push (zDst .push (vLenL (.l 0)))) ((zG (.l 4) true .push (zStep E (cy Y) ⟨.slice 32 (.l 2) none (some (.l 0)) none, .push, none, false, 19, none⟩)) ((zG (.l 5) true .push (zCall (cy Y) 21 [(.l 4), (.l 0)] .push)) ((zDst .push (vPick (.l 6) (.l 0) (.k (.bool false)))) ((zG (.l 0) true .push (zDst .push (vMv (.v 3)))) ((zG (.l 1) true .push (zDst .push (vMv (.v 0)))) ((zG (.l 2) true .push (zCall (cy Y) 38 [(.l 1), (.l 0), (.k (.int .i64 (-1)))] .push)) ((zG (.l 3) true .push (zDst .push (vLenL (.l 0)))) ((zG (.l 4) true .push (zDst .push (vInt E fEql .eql 3 false true (.l 0) (.k (.int .i64 0))))) ((zDst .push (vPick (.l 5) (.l 0) (.k (.bool false)))) ((zDst (.var 10) (vMv (.l 0))) k))))))))))))))))))))))))
  zRet))))))))))), [.tmp (.v 10)]⟩
theorem G8_ok (fn : Nat → Option Func) (pu : Nat → Bool) (pr : Nat → List AV → Option (Heap → Option (Eff × Acc))) : ZOk ⟨Try.tyT, fn, pu, pr⟩ npT F8 (G8 ⟨Try.tyT, fn, pu, pr⟩) := ⟨rfl, rfl, rfl, fun cy Y k => by kernel_rfl⟩
noncomputable def F9 : FFn := ⟨53, [0, 1, 4, 5, 3, 2, 8], (.seq (.reg [⟨.box 25 (.v 0), (.var 2), none, false, 0, (some 0)⟩,
    ⟨.box 25 (.v 1), (.var 3), none, false, 1, (some 1)⟩,
    ⟨.mv (.k (.bool false)), (.var 6), none, true, 2, none⟩]) (.seq (.seq (.reg [⟨.call 40 [], .push, none, false, 0, (some 0)⟩,
    ⟨.un .not (.l 0), .push, none, false, 1, none⟩]) (.cond (.l 0) (.seq (.reg [⟨.mv (.k (.bool false)), (.var 6), none, true, 0, none⟩]) .ret) .skip)) (.seq (.seq (.reg [⟨.load 25 (.v 2), .push, none, true, 0, none⟩,
    ⟨.call 13 [(.l 0)], .push, none, false, 1, (some 0)⟩,
    ⟨.un .not (.l 0), .push, none, false, 2, none⟩,
    ⟨.load 25 (.v 3), .push, (some ((.l 0), false)), true, 4, none⟩,
    ⟨.call 13 [(.l 0)], .push, (some ((.l 1), false)), false, 5, (some 1)⟩,
    ⟨.un .not (.l 0), .push, (some ((.l 2), false)), false, 6, none⟩,
    ⟨.pick (.l 3) (.k (.bool true)) (.l 0), .push, none, true, 7, none⟩,
    ⟨.mv (.v 4), .push, (some ((.l 0), false)), true, 9, none⟩,
    ⟨.len 9 (.l 0), .push, (some ((.l 1), false)), false, 10, none⟩,
    ⟨.bin .gtr 3 false true (.l 0) (.k (.int .i64 40)), .push, (some ((.l 2), false)), false, 11, none⟩,
    ⟨.pick (.l 3) (.k (.bool true)) (.l 0), .push, none, true, 12, none⟩]) (.cond (.l 0) (.seq (.reg [⟨.mv (.k (.bool true)), (.var 6), none, true, 0, none⟩]) .ret) .skip)) (.seq (.dreg 8 [0, 0, 3, 0, 0, 31, 63, 127, 255, 255, 255, 2047, 255, 255, 255, 32767, 65535, 131071, 262143, 524287, 524287, 524287, 4194303, 524287, 524287, 524287, 67108863, 134217727, 268435455, 536870911] [⟨.load 25 (.v 2), .push, none, true, 0, none⟩,
    ⟨.call 41 [(.l 0), (.v 4)], .push, none, false, 2, (some 0)⟩,
    ⟨.load 25 (.v 2), .push, none, true, 3, none⟩,
    ⟨.call 42 [(.l 0), (.v 4)], .push, none, false, 5, (some 1)⟩,
    ⟨.call 21 [(.l 2), (.l 0)], .push, none, false, 6, (some 2)⟩,
    ⟨.load 25 (.v 2), .push, (some ((.l 0), true)), true, 8, none⟩,
    ⟨.mv (.v 5), .push, (some ((.l 1), true)), true, 9, none⟩,
    ⟨.mv (.v 4), .push, (some ((.l 2), true)), true, 10, none⟩,
    ⟨.call 43 [(.l 2), (.l 1), (.l 0)], .push, (some ((.l 3), true)), false, 11, (some 3)⟩,
    ⟨.load 25 (.v 2), .push, (some ((.l 4), true)), true, 12, none⟩,
    ⟨.mv (.v 5), .push, (some ((.l 5), true)), true, 13, none⟩,
    ⟨.mv (.v 4), .push, (some ((.l 6), true)), true, 14, none⟩,
    ⟨.call 44 [(.l 2), (.l 1), (.l 0)], .push, (some ((.l 7), true)), false, 15, (some 4)⟩,
    ⟨.bin .eql 4 false false (.l 4) (.l 0), .push, (some ((.l 8), true)), false, 16, none⟩,
    ⟨.pick (.l 9) (.l 0) (.k (.bool false)), .push, none, true, 17, none⟩,
    ⟨.load 25 (.v 2), .push, (some ((.l 0), true)), true, 19, none⟩,
    ⟨.load 25 (.v 3), .push, (some ((.l 1), true)), true, 20, none⟩,
    ⟨.mv (.v 4), .push, (some ((.l 2), true)), true, 21, none⟩,
    ⟨.call 45 [(.l 2), (.l 1), (.l 0)], .push, (some ((.l 3), true)), false, 22, (some 5)⟩,
    ⟨.load 25 (.v 2), .push, (some ((.l 4), true)), true, 23, none⟩,
    ⟨.load 25 (.v 3), .push, (some ((.l 5), true)), true, 24, none⟩,
    ⟨.mv (.v 4), .push, (some ((.l 6), true)), true, 25, none⟩,
    ⟨.call 46 [(.l 2), (.l 1), (.l 0)], .push, (some ((.l 7), true)), false, 26, (some 6)⟩,
    ⟨.call 21 [(.l 4), (.l 0)], .push, (some ((.l 8), true)), false, 27, (some 7)⟩,
    ⟨.pick (.l 9) (.l 0) (.k (.bool false)), .push, none, true, 28, none⟩,
    ⟨.mv (.l 0), (.var 6), none, true, 29, none⟩]) .ret)))), [.tmp (.v 6)]⟩
noncomputable def G9 (E : Env) : ZFn := ⟨53, [0, 1, 4, 5, 3, 2, 8], fun cy Y fuel =>
  (zSeq (zReg fun k => (zStep E (cy Y) ⟨.box 25 (.v 0), (.var 2), none, false, 0, (some 0)⟩) ((zStep E (cy Y) ⟨.box 25 (.v 1), (.var 3), none, false, 1, (some 1)⟩) ((zDst (.var 6) (vMv (.k (.bool false)))) k)))
  (zSeq (zSeq (zReg fun k => (zStep E (cy Y) ⟨.call 40 [], .push, none, false, 0, (some 0)⟩) ((zDst .push (vNot (.l 0))) k))
  (zCond (.l 0) (zSeq (zReg fun k => (zDst (.var 6) (vMv (.k (.bool false)))) k)
  zRet) zSkip))
  (zSeq (zSeq (zReg fun k => (zDstW .push (wLoad 2 true (.v 2))) ((zCall (cy Y) 13 [(.l 0)] .push) ((zDst .push (vNot (.l 0))) ((zG (.l 0) false .push (zDstW .push (wLoad 2 true (.v 3)))) ((zG (.l 1) false .push (zCall (cy Y) 13 [(.l 0)] .push)) ((zG (.l 2) false .push (zDst .push (vNot (.l 0)))) ((zDst .push (vPick (.l 3) (.k (.bool true)) (.l 0))) ((zG (.l 0) false .push (zDst .push (vMv (.v 4)))) ((zG (.l 1) false .push (zDst .push (vLenS (.l 0)))) ((zG (.l 2) false .push (zDst .push (vInt E fGtr .gtr 3 false true (.l 0) (.k (.int .i64 40))))) ((zDst .push (vPick (.l 3) (.k (.bool true)) (.l 0))) k)))))))))))
  (zCond (.l 0) (zSeq (zReg fun k => (zDst (.var 6) (vMv (.k (.bool true)))) k)
  zRet) zSkip))
  (zSeq (zDreg 8 fun n0 k => (zDstWD [0, 0, 3, 0, 0, 31, 63, 127, 255, 255, 255, 2047, 255, 255, 255, 32767, 65535, 131071, 262143, 524287, 524287, 524287, 4194303, 524287, 524287, 524287, 67108863, 134217727, 268435455, 536870911] 0 .push (wLoad 2 true (.v 2))) ((zCallD (cy Y) [0, 0, 3, 0, 0, 31, 63, 127, 255, 255, 255, 2047, 255, 255, 255, 32767, 65535, 131071, 262143, 524287, 524287, 524287, 4194303, 524287, 524287, 524287, 67108863, 134217727, 268435455, 536870911] 2 41 [(.l 0), (.v 4)] .push) ((zDstWD [0, 0, 3, 0, 0, 31, 63, 127, 255, 255, 255, 2047, 255, 255, 255, 32767, 65535, 131071, 262143, 524287, 524287, 524287, 4194303, 524287, 524287, 524287, 67108863, 134217727, 268435455, 536870911] 3 .push (wLoad 2 true (.v 2))) ((zCallD (cy Y) [0, 0, 3, 0, 0, 31, 63, 127, 255, 255, 255, 2047, 255, 255, 255, 32767, 65535, 131071, 262143, 524287, 524287, 524287, 4194303, 524287, 524287, 524287, 67108863, 134217727, 268435455, 536870911] 5 42 [(.l 0), (.v 4)] .push) ((zCallD (cy Y) [0, 0, 3, 0, 0, 31, 63, 127, 255, 255, 255, 2047, 255, 255, 255, 32767, 65535, 131071, 262143, 524287, 524287, 524287, 4194303, 524287, 524287, 524287, 67108863, 134217727, 268435455, 536870911] 6 21 [(.l 2), (.l 0)] .push) ((zGD (.l 0) true .push (zDstWD [0, 0, 3, 0, 0, 31, 63, 127, 255, 255, 255, 2047, 255, 255, 255, 32767, 65535, 131071, 262143, 524287, 524287, 524287, 4194303, 524287, 524287, 524287, 67108863, 134217727, 268435455, 536870911] 8 .push (wLoad 2 true (.v 2)))) ((zGD (.l 1) true .push (fun k sp => zDst .push (vMv (.v 5)) (k sp))) ((zGD (.l 2) true .push (fun k sp => zDst .push (vMv (.v 4)) (k sp))) ((zGD (.l 3) true .push (zCallD (cy Y) [0, 0, 3, 0, 0, 31, 63, 127, 255, 255, 255, 2047, 255, 255, 255, 32767, 65535, 131071, 262143, 524287, 524287, 524287, 4194303, 524287, 524287, 524287, 67108863, 134217727, 268435455, 536870911] 11 43 [(.l 2), (.l 1), (.l 0)] .push)) ((zGD (.l 4) true .push (zDstWD [0, 0, 3, 0, 0, 31, 63, 127, 255, 255, 255, 2047, 255, 255, 255, 32767, 65535, 131071, 262143, 524287, 524287, 524287, 4194303, 524287, 524287, 524287, 67108863, 134217727, 268435455, 536870911] 12 .push (wLoad 2 true (.v 2)))) ((zGD (.l 5) true .push (fun k sp => zDst .push (vMv (.v 5)) (k sp))) ((zGD (.l 6) true .push (fun k sp => zDst .push (vMv (.v 4)) (k sp))) ((zGD (.l 7) true .push (zCallD (cy Y) [0, 0, 3, 0, 0, 31, 63, 127, 255, 255, 255, 2047, 255, 255, 255, 32767, 65535, 131071, 262143, 524287, 524287, 524287, 4194303, 524287, 524287, 524287, 67108863, 134217727, 268435455, 536870911] 15 44 [(.l 2), (.l 1), (.l 0)] .push)) ((zGD (.l 8) true .push (fun k sp => zDst .push (vInt E fEql .eql 4 false false (.l 4) (.l 0)) (k sp))) ((fun k sp => zDst .push (vPick (.l 9) (.l 0) (.k (.bool false))) (k sp)) ((zGD (.l 0) true .push (zDstWD [0, 0, 3, 0, 0, 31, 63, 127, 255, 255, 255, 2047, 255, 255, 255, 32767, 65535, 131071, 262143, 524287, 524287, 524287, 4194303, 524287, 524287, 524287, 67108863, 134217727, 268435455, 536870911] 19 .push (wLoad 2 true (.v 2)))) ((zGD (.l 1) true .push (zDstWD [0, 0, 3, 0, 0, 31, 63, 127, 255, 255, 255, 2047, 255, 255, 255, 32767, 65535, 131071, 262143, 524287, 524287, 524287, 4194303, 524287, 524287, 524287, 67108863, 134217727, 268435455, 536870911] 20 .push (wLoad 2 true (.v 3)))) ((zGD (.l 2) true .push (fun k sp => zDst .push (vMv (.v 4)) (k sp))) ((zGD (.l 3) true .push (zCallD (cy Y) [0, 0, 3, 0, 0, 31, 63, 127, 255, 255, 255, 2047, 255, 255, 255, 32767, 65535, 131071, 262143, 524287, 524287, 524287, 4194303, 524287, 524287, 524287, 67108863, 134217727, 268435455, 536870911] 22 45 [(.l 2), (.l 1), (.l 0)] .push)) ((zGD (.l 4) true .push (zDstWD [0, 0, 3, 0, 0, 31, 63, 127, 255, 255, 255, 2047, 255, 255, 255, 32767, 65535, 131071, 262143, 524287, 524287, 524287, 4194303, 524287, 524287, 524287, 67108863, 134217727, 268435455, 536870911] 23 .push (wLoad 2 true (.v 2)))) ((zGD (.l 5) true .push (zDstWD [0, 0, 3, 0, 0, 31, 63, 127, 255, 255, 255, 2047, 255, 255, 255, 32767, 65535, 131071, 262143, 524287, 524287, 524287, 4194303, 524287, 524287, 524287, 67108863, 134217727, 268435455, 536870911] 24 .push (wLoad 2 true (.v 3)))) ((zGD (.l 6) true .push (fun k sp => zDst .push (vMv (.v 4)) (k sp))) ((zGD (.l 7) true .push (zCallD (cy Y) [0, 0, 3, 0, 0, 31, 63, 127, 255, 255, 255, 2047, 255, 255, 255, 32767, 65535, 131071, 262143, 524287, 524287, 524287, 4194303, 524287, 524287, 524287, 67108863, 134217727, 268435455, 536870911] 26 46 [(.l 2), (.l 1), (.l 0)] .push)) ((zGD (.l 8) true .push (zCallD (cy Y) [0, 0, 3, 0, 0, 31, 63, 127, 255, 255, 255, 2047, 255, 255, 255, 32767, 65535, 131071, 262143, 524287, 524287, 524287, 4194303, 524287, 524287, 524287, 67108863, 134217727, 268435455, 536870911] 27 21 [(.l 4), (.l 0)] .push)) ((fun k sp => zDst .push (vPick (.l 9) (.l 0) (.k (.bool false))) (k sp)) ((fun k sp => zDst (.var 6) (vMv (.l 0)) (k sp)) k))))))))))))))))))))))))))
  zRet)))), [.tmp (.v 6)]⟩
theorem G9_ok (fn : Nat → Option Func) (pu : Nat → Bool) (pr : Nat → List AV → Option (Heap → Option (Eff × Acc))) : ZOk ⟨Try.tyT, fn, pu, pr⟩ npT F9 (G9 ⟨Try.tyT, fn, pu, pr⟩) := ⟨rfl, rfl, rfl, fun cy Y k => by kernel_rfl⟩
noncomputable def F10 : FFn := ⟨82, [1, 9, 0, 8, 7, 2, 10, 11, 12, 6], (.seq (.reg [⟨.mv (.k (.bool false)), (.var 9), none, true, 0, none⟩]) (.seq (.seq (.reg [⟨.call 40 [], .push, none, false, 0, (some 0)⟩,
    ⟨.un .not (.l 0), .push, none, false, 1, none⟩]) (.cond (.l 0) (.seq (.reg [⟨.mv (.k (.bool false)), (.var 9), none, true, 0, none⟩]) .ret) .skip)) (.seq (.reg [⟨.build 25 [], .push, none, false, 0, none⟩,
    ⟨.alloc 25, (.var 4), none, false, 1, (some 0)⟩,
    ⟨.store 25 (.v 4) (.l 0), .none, none, false, 2, none⟩]) (.seq (.reg [⟨.bin .rem 5 false true (.v 0) (.k (.int .u8 4)), .push, none, false, 1, none⟩,
    ⟨.conv 5 3 (.l 0), .push, none, false, 2, none⟩,
    ⟨.mv (.l 0), (.var 3), none, true, 3, none⟩]) (.seq (.seq (.reg [⟨.mv (.k (.int .i64 0)), (.var 1), none, true, 0, none⟩]) (.block 0 (.loop (.seq (.seq (.reg [⟨.bin .lss 3 false true (.v 1) (.k (.int .i64 4)), .push, none, false, 1, none⟩]) (.cond (.l 0) .skip (.exit 0))) (.seq (.block 1 (.seq (.reg [⟨.conv 3 48 (.v 1), .push, none, false, 2, none⟩,
    ⟨.bin .shr 5 false false (.v 2) (.l 0), .push, none, false, 3, none⟩,
    ⟨.bin .and 5 false true (.l 0) (.k (.int .u8 1)), .push, none, false, 4, none⟩,
    ⟨.bin .eql 5 false true (.l 0) (.k (.int .u8 1)), .push, none, false, 5, none⟩,
    ⟨.mv (.v 1), .push, (some ((.l 0), true)), true, 7, none⟩,
    ⟨.mv (.v 3), .push, (some ((.l 1), true)), true, 8, none⟩,
    ⟨.bin .neq 3 false false (.l 1) (.l 0), .push, (some ((.l 2), true)), false, 9, none⟩,
    ⟨.pick (.l 3) (.l 0) (.k (.bool false)), .push, none, true, 10, none⟩]) (.cond (.l 0) (.reg [⟨.load 25 (.v 4), .push, none, true, 0, none⟩,
    ⟨.call 25 [(.l 0), (.v 1)], .push, none, false, 2, (some 0)⟩,
    ⟨.store 25 (.v 4) (.l 0), .none, none, false, 3, none⟩]) .skip))) (.reg [⟨.mv (.v 1), .push, none, true, 0, none⟩,
    ⟨.bin .add 3 false true (.l 0) (.k (.int .i64 1)), .push, none, false, 1, none⟩,
    ⟨.mv (.l 0), (.var 1), none, true, 2, none⟩])))))) (.seq (.reg [⟨.load 25 (.v 4), .push, none, true, 0, none⟩,
    ⟨.call 25 [(.l 0), (.v 3)], .push, none, false, 2, (some 0)⟩,
    ⟨.alloc 25, (.var 6), none, false, 3, (some 1)⟩,
    ⟨.store 25 (.v 6) (.l 0), .none, none, false, 4, none⟩]) (.seq (.reg [⟨.bin .rem 5 false true (.v 5) (.k (.int .u8 26)), .push, none, false, 1, none⟩,
    ⟨.bin .add 5 true false (.k (.int .u8 97)) (.l 0), .push, none, false, 2, none⟩,
    ⟨.buildSlice 40 1 [(0, (.l 0))], .push, none, false, 3, (some 0)⟩,
    ⟨.conv 40 9 (.l 0), .push, none, false, 4, none⟩,
    ⟨.bin .add 9 true false (.k (.str [109])) (.l 0), .push, none, false, 5, none⟩,
    ⟨.mv (.l 0), (.var 7), none, true, 6, none⟩]) (.seq (.reg [⟨.load 25 (.v 4), .push, none, true, 0, none⟩,
    ⟨.load 25 (.v 6), .push, none, true, 1, none⟩,
    ⟨.call 45 [(.l 1), (.l 0), (.v 7)], .push, none, false, 3, (some 0)⟩,
    ⟨.mv (.l 0), (.var 8), none, true, 4, none⟩]) (.seq (.reg [⟨.len 32 (.v 8), .push, none, false, 1, none⟩,
    ⟨.bin .leq 3 false true (.l 0) (.k (.int .i64 1)), .push, none, false, 2, none⟩,
    ⟨.mv (.v 8), .push, (some ((.l 0), true)), true, 4, none⟩,
    ⟨.len 32 (.l 0), .push, (some ((.l 1), true)), false, 5, none⟩,
    ⟨.bin .eql 3 false true (.l 0) (.k (.int .i64 0)), .push, (some ((.l 2), true)), false, 6, none⟩,
    ⟨.mv (.l 0), .push, (some ((.l 3), true)), true, 7, none⟩,
    ⟨.mv (.v 8), .push, (some ((.l 0), false)), true, 8, none⟩,
    ⟨.indexAddr 32 (.l 0) (.k (.int .i64 0)), .push, (some ((.l 1), false)), true, 9, none⟩,
    ⟨.load 3 (.l 0), .push, (some ((.l 2), false)), true, 10, none⟩,
    ⟨.mv (.v 3), .push, (some ((.l 3), false)), true, 11, none⟩,
    ⟨.bin .eql 3 false false (.l 1) (.l 0), .push, (some ((.l 4), false)), false, 12, none⟩,
    ⟨.pick (.l 5) (.k (.bool true)) (.l 0), .push, (some ((.l 9), true)), true, 13, none⟩,
    ⟨.pick (.l 10) (.l 0) (.k (.bool false)), .push, none, true, 14, none⟩,
    ⟨.mv (.v 8), .push, (some ((.l 0), true)), true, 16, none⟩,
    ⟨.len 32 (.l 0), .push, (some ((.l 1), true)), false, 17, none⟩,
    ⟨.bin .eql 3 false true (.l 0) (.k (.int .i64 1)), .push, (some ((.l 2), true)), false, 18, none⟩,
    ⟨.load 25 (.v 6), .push, (some ((.l 3), true)), true, 19, none⟩,
    ⟨.mv (.v 3), .push, (some ((.l 4), true)), true, 20, none⟩,
    ⟨.mv (.v 7), .push, (some ((.l 5), true)), true, 21, none⟩,
    ⟨.call 43 [(.l 2), (.l 1), (.l 0)], .push, (some ((.l 6), true)), false, 22, (some 0)⟩,
    ⟨.bin .eql 4 false false (.l 4) (.l 0), .push, (some ((.l 7), true)), false, 23, none⟩,
    ⟨.pick (.l 8) (.l 0) (.k (.bool false)), .push, none, true, 24, none⟩,
    ⟨.load 25 (.v 4), .push, (some ((.l 0), true)), true, 26, none⟩,
    ⟨.mv (.v 3), .push, (some ((.l 1), true)), true, 27, none⟩,
    ⟨.mv (.v 7), .push, (some ((.l 2), true)), true, 28, none⟩,
    ⟨.call 43 [(.l 2), (.l 1), (.l 0)], .push, (some ((.l 3), true)), false, 29, (some 1)⟩,
    ⟨.un .not (.l 0), .push, (some ((.l 4), true)), false, 30, none⟩,
    ⟨.pick (.l 5) (.l 0) (.k (.bool false)), .push, none, true, 31, none⟩,
    ⟨.mv (.l 0), (.var 9), none, true, 32, none⟩]) .ret))))))))), [.tmp (.v 9)]⟩
noncomputable def G10 (E : Env) : ZFn := ⟨82, [1, 9, 0, 8, 7, 2, 10, 11, 12, 6], fun cy Y fuel =>
  (zSeq (zReg fun k => (zDst (.var 9) (vMv (.k (.bool false)))) k)
  (zSeq (zSeq (zReg fun k => (zStep E (cy Y) ⟨.call 40 [], .push, none, false, 0, (some 0)⟩) ((zDst .push (vNot (.l 0))) k))
  (zCond (.l 0) (zSeq (zReg fun k => (zDst (.var 9) (vMv (.k (.bool false)))) k)
  zRet) zSkip))
  (zSeq (zReg fun k => (zStep E (cy Y) ⟨.build 25 [], .push, none, false, 0, none⟩) ((zStep E (cy Y) ⟨.alloc 25, (.var 4), none, false, 1, (some 0)⟩) ((zStep E (cy Y) ⟨.store 25 (.v 4) (.l 0), .none, none, false, 2, none⟩) k)))
  (zSeq (zReg fun k => (zDst .push (vInt E (fGen .rem) .rem 5 false true (.v 0) (.k (.int .u8 4)))) ((zDst .push (vConv .i64 (.l 0))) ((zDst (.var 3) (vMv (.l 0))) k)))
  (zSeq (zSeq (zReg fun k => (zDst (.var 1) (vMv (.k (.int .i64 0)))) k)
  (zBlock 0 (zLoop fuel (zSeq (zSeq (zReg fun k => (zDst .push (vInt E fLss .lss 3 false true (.v 1) (.k (.int .i64 4)))) k)
  (zCond (.l 0) zSkip (zExit 0)))
  (zSeq (zBlock 1 (zSeq (zReg fun k => (zDst .push (vConv .u64 (.v 1))) ((zDst .push (vBin E .shr 5 false false (.v 2) (.l 0))) ((zDst .push (vInt E (fGen .and) .and 5 false true (.l 0) (.k (.int .u8 1)))) ((zDst .push (vInt E fEql .eql 5 false true (.l 0) (.k (.int .u8 1)))) ((zG (.l 0) true .push (zDst .push (vMv (.v 1)))) ((zG (.l 1) true .push (zDst .push (vMv (.v 3)))) ((zG (.l 2) true .push (zDst .push (vInt E fNeq .neq 3 false false (.l 1) (.l 0)))) ((zDst .push (vPick (.l 3) (.l 0) (.k (.bool false)))) k))))))))
  (zCond (.l 0) (zReg fun k => (zDstW .push (wLoad 2 true (.v 4))) ((zCall (cy Y) 25 [(.l 0), (.v 1)] .push) ((zStep E (cy Y) ⟨.store 25 (.v 4) (.l 0), .none, none, false, 3, none⟩) k))) zSkip)))
  (zReg fun k => (zDst .push (vMv (.v 1))) ((zDst .push (vInt E fAdd .add 3 false true (.l 0) (.k (.int .i64 1)))) ((zDst (.var 1) (vMv (.l 0))) k))))))))
  (zSeq (zReg fun k => (zDstW .push (wLoad 2 true (.v 4))) ((zCall (cy Y) 25 [(.l 0), (.v 3)] .push) ((zStep E (cy Y) ⟨.alloc 25, (.var 6), none, false, 3, (some 1)⟩) ((zStep E (cy Y) ⟨.store 25 (.v 6) (.l 0), .none, none, false, 4, none⟩) k))))
  (zSeq (zReg fun k => (zDst .push (vInt E (fGen .rem) .rem 5 false true (.v 5) (.k (.int .u8 26)))) ((zDst .push (vInt E fAdd .add 5 true false (.k (.int .u8 97)) (.l 0))) ((zStep E (cy Y) ⟨.buildSlice 40 1 [(0, (.l 0))], .push, none, false, 3, (some 0)⟩) ((zStep E (cy Y) ⟨.conv 40 9 (.l 0), .push, none, false, 4, none⟩) ((zDst .push (vInt E fAdd .add 9 true false (.k (.str [109])) (.l 0))) ((zDst (.var 7) (vMv (.l 0))) k))))))
  (zSeq (zReg fun k => (zDstW .push (wLoad 2 true (.v 4))) ((zDstW .push (wLoad 2 true (.v 6))) ((zCall (cy Y) 45 [(.l 1), (.l 0), (.v 7)] .push) ((zDst (.var 8) (vMv (.l 0))) k))))
  (zSeq (zReg fun k => (zDst .push (vLenL (.v 8))) ((zDst .push (vInt E (fGen .leq) .leq 3 false true (.l 0) (.k (.int .i64 1)))) ((zG (.l 0) true .push (zDst .push (vMv (.v 8)))) ((zG (.l 1) true .push (zDst .push (vLenL (.l 0)))) ((zG (.l 2) true .push (zDst .push (vInt E fEql .eql 3 false true (.l 0) (.k (.int .i64 0))))) ((zG (.l 3) true .push (zDst .push (vMv (.l 0)))) ((zG (.l 0) false .push (zDst .push (vMv (.v 8)))) ((zG (.l 1) false .push (zDst .push (vIndexAddr 1 (.l 0) (.k (.int .i64 0))))) ((zG (.l 2) false .push (zDstW .push (wLoad 1 false (.l 0)))) ((zG (.l 3) false .push (zDst .push (vMv (.v 3)))) ((zG (.l 4) false .push (zDst .push (vInt E fEql .eql 3 false false (.l 1) (.l 0)))) ((zG (.l 9) true .push (zDst .push (vPick (.l 5) (.k (.bool true)) (.l 0)))) ((zDst .push (vPick (.l 10) (.l 0) (.k (.bool false)))) ((zG (.l 0) true .push (zDst .push (vMv (.v 8)))) ((zG (.l 1) true .push (zDst .push (vLenL (.l 0)))) ((zG (.l 2) true .push (zDst .push (vInt E fEql .eql 3 false true (.l 0) (.k (.int .i64 1))))) ((zG (.l 3) true .push (zDstW .push (wLoad 2 true (.v 6)))) ((zG (.l 4) true .push (zDst .push (vMv (.v 3)))) ((zG (.l 5) true .push (zDst .push (vMv (.v 7)))) ((zG (.l 6) true .push (zCall (cy Y) 43 [(.l 2), (.l 1), (.l 0)] .push)) ((zG (.l 7) true .push (zDst .push (vInt E fEql .eql 4 false false (.l 4) (.l 0)))) ((zDst .push (vPick (.l 8) (.l 0) (.k (.bool false)))) ((zG (.l 0) true .push (zDstW .push (wLoad 2 true (.v 4)))) ((zG (.l 1) true .push (zDst .push (vMv (.v 3)))) ((zG (.l 2) true .push (zDst .push (vMv (.v 7)))) ((zG (.l 3) true .push (zCall (cy Y) 43 [(.l 2), (.l 1), (.l 0)] .push)) ((zG (.l 4) true .push (zDst .push (vNot (.l 0)))) ((zDst .push (vPick (.l 5) (.l 0) (.k (.bool false)))) ((zDst (.var 9) (vMv (.l 0))) k)))))))))))))))))))))))))))))
  zRet))))))))), [.tmp (.v 9)]⟩
theorem G10_ok (fn : Nat → Option Func) (pu : Nat → Bool) (pr : Nat → List AV → Option (Heap → Option (Eff × Acc))) : ZOk ⟨Try.tyT, fn, pu, pr⟩ npT F10 (G10 ⟨Try.tyT, fn, pu, pr⟩) := ⟨rfl, rfl, rfl, fun cy Y k => by kernel_rfl⟩
noncomputable def F11 : FFn := ⟨68, [1, 2, 3, 4, 0], (.seq (.reg [⟨.mv (.k (.bool false)), (.var 4), none, true, 0, none⟩]) (.seq (.reg [⟨.call 16 [(.k (.int .i64 2))], .push, none, false, 0, (some 0)⟩,
    ⟨.alloc 25, (.var 0), none, false, 1, (some 1)⟩,
    ⟨.store 25 (.v 0) (.l 0), .none, none, false, 2, none⟩]) (.seq (.reg [⟨.load 25 (.v 0), .push, none, true, 0, none⟩,
    ⟨.call 24 [(.l 0), (.k (.int .i64 1))], .push, none, false, 1, (some 0)⟩,
    ⟨.alloc 25, (.var 1), none, false, 2, (some 1)⟩,
    ⟨.store 25 (.v 1) (.l 0), .none, none, false, 3, none⟩]) (.seq (.reg [⟨.load 25 (.v 0), .push, none, true, 0, none⟩,
    ⟨.call 28 [(.l 0), (.k (.str [109, 49])), (.k (.int .i64 3))], .push, none, false, 1, (some 0)⟩,
    ⟨.alloc 25, (.var 2), none, false, 2, (some 1)⟩,
    ⟨.store 25 (.v 2) (.l 0), .none, none, false, 3, none⟩]) (.seq (.reg [⟨.load 25 (.v 1), .push, none, true, 0, none⟩,
    ⟨.load 25 (.v 2), .push, none, true, 1, none⟩,
    ⟨.call 19 [(.l 1), (.l 0)], .push, none, false, 2, (some 0)⟩,
    ⟨.alloc 25, (.var 3), none, false, 3, (some 1)⟩,
    ⟨.store 25 (.v 3) (.l 0), .none, none, false, 4, none⟩]) (.seq (.dreg 12 [0, 1, 3, 7, 15, 31, 63, 127, 255, 511, 1023, 2047, 4095, 8191, 16383, 32767, 65535, 131071, 262143, 524287, 1048575, 2097151, 4194303, 8388607, 16777215, 33554431, 67108863, 134217727, 268435455, 536870911, 1073741823, 2147483647, 4294967295, 8589934591, 17179869183, 34359738367, 68719476735, 68719476735, 68719476735, 481036337151, 1099511627775, 2199023255551, 4398046511103, 8796093022207, 8796093022207, 35184372088831, 70368744177663, 140737488355327, 281474976710655, 562949953421311, 1125899906842623, 2251799813685247, 4503599627370495, 9007199254740991, 18014398509481983, 36028797018963967] [⟨.load 25 (.v 0), .push, none, true, 0, none⟩,
    ⟨.call 12 [(.l 0)], .push, none, false, 1, (some 0)⟩,
    ⟨.load 25 (.v 0), .push, (some ((.l 0), true)), true, 3, none⟩,
    ⟨.call 22 [(.l 0)], .push, (some ((.l 1), true)), false, 4, (some 1)⟩,
    ⟨.len 32 (.l 0), .push, (some ((.l 2), true)), false, 5, none⟩,
    ⟨.bin .eql 3 false true (.l 0) (.k (.int .i64 2)), .push, (some ((.l 3), true)), false, 6, none⟩,
    ⟨.pick (.l 4) (.l 0) (.k (.bool false)), .push, none, true, 7, none⟩,
    ⟨.load 25 (.v 1), .push, (some ((.l 0), true)), true, 9, none⟩,
    ⟨.call 22 [(.l 0)], .push, (some ((.l 1), true)), false, 10, (some 2)⟩,
    ⟨.len 32 (.l 0), .push, (some ((.l 2), true)), false, 11, none⟩,
    ⟨.bin .eql 3 false true (.l 0) (.k (.int .i64 1)), .push, (some ((.l 3), true)), false, 12, none⟩,
    ⟨.pick (.l 4) (.l 0) (.k (.bool false)), .push, none, true, 13, none⟩,
    ⟨.load 25 (.v 2), .push, (some ((.l 0), true)), true, 15, none⟩,
    ⟨.call 26 [(.l 0), (.k (.str [109, 49]))], .push, (some ((.l 1), true)), false, 16, (some 3)⟩,
    ⟨.bin .eql 3 false true (.l 0) (.k (.int .i64 3)), .push, (some ((.l 2), true)), false, 17, none⟩,
    ⟨.pick (.l 3) (.l 0) (.k (.bool false)), .push, none, true, 18, none⟩,
    ⟨.load 25 (.v 0), .push, (some ((.l 0), true)), true, 20, none⟩,
    ⟨.call 26 [(.l 0), (.k (.str [109, 49]))], .push, (some ((.l 1), true)), false, 21, (some 4)⟩,
    ⟨.bin .eql 3 false true (.l 0) (.k (.int .i64 2)), .push, (some ((.l 2), true)), false, 22, none⟩,
    ⟨.pick (.l 3) (.l 0) (.k (.bool false)), .push, none, true, 23, none⟩,
    ⟨.load 25 (.v 3), .push, (some ((.l 0), true)), true, 25, none⟩,
    ⟨.call 22 [(.l 0)], .push, (some ((.l 1), true)), false, 26, (some 5)⟩,
    ⟨.len 32 (.l 0), .push, (some ((.l 2), true)), false, 27, none⟩,
    ⟨.bin .eql 3 false true (.l 0) (.k (.int .i64 1)), .push, (some ((.l 3), true)), false, 28, none⟩,
    ⟨.pick (.l 4) (.l 0) (.k (.bool false)), .push, none, true, 29, none⟩,
    ⟨.load 25 (.v 3), .push, (some ((.l 0), true)), true, 31, none⟩,
    ⟨.call 26 [(.l 0), (.k (.str [109, 49]))], .push, (some ((.l 1), true)), false, 32, (some 6)⟩,
    ⟨.bin .eql 3 false true (.l 0) (.k (.int .i64 3)), .push, (some ((.l 2), true)), false, 33, none⟩,
    ⟨.pick (.l 3) (.l 0) (.k (.bool false)), .push, none, true, 34, none⟩,
    ⟨.load 25 (.v 3), .push, (some ((.l 0), true)), true, 36, none⟩,
    ⟨.load 25 (.v 2), .push, (some ((.l 1), true)), true, 37, none⟩,
    ⟨.load 25 (.v 1), .push, (some ((.l 2), true)), true, 38, none⟩,
    ⟨.call 19 [(.l 1), (.l 0)], .push, (some ((.l 3), true)), false, 39, (some 7)⟩,
    ⟨.call 14 [(.l 3), (.l 0)], .push, (some ((.l 4), true)), false, 40, (some 8)⟩,
    ⟨.pick (.l 5) (.l 0) (.k (.bool false)), .push, none, true, 41, none⟩,
    ⟨.load 25 (.v 0), .push, (some ((.l 0), true)), true, 43, none⟩,
    ⟨.load 25 (.v 1), .push, (some ((.l 1), true)), true, 44, none⟩,
    ⟨.call 14 [(.l 1), (.l 0)], .push, (some ((.l 2), true)), false, 45, (some 9)⟩,
    ⟨.un .not (.l 0), .push, (some ((.l 3), true)), false, 46, none⟩,
    ⟨.pick (.l 4) (.l 0) (.k (.bool false)), .push, none, true, 47, none⟩,
    ⟨.build 56 [(0, (.k (.int .i64 9))), (1, (.k (.int .u64 1)))], .push, (some ((.l 0), true)), false, 49, none⟩,
    ⟨.buildSlice 22 1 [(0, (.l 0))], .push, (some ((.l 1), true)), false, 50, (some 10)⟩,
    ⟨.build 25 [(0, (.l 0))], .push, (some ((.l 2), true)), false, 51, none⟩,
    ⟨.call 12 [(.l 0)], .push, (some ((.l 3), true)), false, 52, (some 11)⟩,
    ⟨.un .not (.l 0), .push, (some ((.l 4), true)), false, 53, none⟩,
    ⟨.pick (.l 5) (.l 0) (.k (.bool false)), .push, none, true, 54, none⟩,
    ⟨.mv (.l 0), (.var 4), none, true, 55, none⟩]) .ret)))))), [.tmp (.v 4)]⟩
noncomputable def G11 (E : Env) : ZFn := ⟨68, [1, 2, 3, 4, 0], fun cy Y fuel =>
  (zSeq (zReg fun k => (zDst (.var 4) (vMv (.k (.bool false)))) k)
  (zSeq (zReg fun k => (zCall (cy Y) 16 [(.k (.int .i64 2))] .push) ((zStep E (cy Y) ⟨.alloc 25, (.var 0), none, false, 1, (some 1)⟩) ((zStep E (cy Y) ⟨.store 25 (.v 0) (.l 0), .none, none, false, 2, none⟩) k)))
  (zSeq (zReg fun k => (zDstW .push (wLoad 2 true (.v 0))) ((zCall (cy Y) 24 [(.l 0), (.k (.int .i64 1))] .push) ((zStep E (cy Y) ⟨.alloc 25, (.var 1), none, false, 2, (some 1)⟩) ((zStep E (cy Y) ⟨.store 25 (.v 1) (.l 0), .none, none, false, 3, none⟩) k))))
  (zSeq (zReg fun k => (zDstW .push (wLoad 2 true (.v 0))) ((zCall (cy Y) 28 [(.l 0), (.k (.str [109, 49])), (.k (.int .i64 3))] .push) ((zStep E (cy Y) ⟨.alloc 25, (.var 2), none, false, 2, (some 1)⟩) ((zStep E (cy Y) ⟨.store 25 (.v 2) (.l 0), .none, none, false, 3, none⟩) k))))
  (zSeq (zReg fun k => (zDstW .push (wLoad 2 true (.v 1))) ((zDstW .push (wLoad 2 true (.v 2))) ((zCall (cy Y) 19 [(.l 1), (.l 0)] .push) ((zStep E (cy Y) ⟨.alloc 25, (.var 3), none, false, 3, (some 1)⟩) ((zStep E (cy Y) ⟨.store 25 (.v 3) (.l 0), .none, none, false, 4, none⟩) k)))))
  (zSeq (zDreg 12 fun n0 k => (zDstWD [0, 1, 3, 7, 15, 31, 63, 127, 255, 511, 1023, 2047, 4095, 8191, 16383, 32767, 65535, 131071, 262143, 524287, 1048575, 2097151, 4194303, 8388607, 16777215, 33554431, 67108863, 134217727, 268435455, 536870911, 1073741823, 2147483647, 4294967295, 8589934591, 17179869183, 34359738367, 68719476735, 68719476735, 68719476735, 481036337151, 1099511627775, 2199023255551, 4398046511103, 8796093022207, 8796093022207, 35184372088831, 70368744177663, 140737488355327, 281474976710655, 562949953421311, 1125899906842623, 2251799813685247, 4503599627370495, 9007199254740991, 18014398509481983, 36028797018963967] 0 .push (wLoad 2 true (.v 0))) ((zCallD (cy Y) [0, 1, 3, 7, 15, 31, 63, 127, 255, 511, 1023, 2047, 4095, 8191, 16383, 32767, 65535, 131071, 262143, 524287, 1048575, 2097151, 4194303, 8388607, 16777215, 33554431, 67108863, 134217727, 268435455, 536870911, 1073741823, 2147483647, 4294967295, 8589934591, 17179869183, 34359738367, 68719476735, 68719476735, 68719476735, 481036337151, 1099511627775, 2199023255551, 4398046511103, 8796093022207, 8796093022207, 35184372088831, 70368744177663, 140737488355327, 281474976710655, 562949953421311, 1125899906842623, 2251799813685247, 4503599627370495, 9007199254740991, 18014398509481983, 36028797018963967] 1 12 [(.l 0)] .push) ((zGD (.l 0) true .push (zDstWD [0, 1, 3, 7, 15, 31, 63, 127, 255, 511, 1023, 2047, 4095, 8191, 16383, 32767, 65535, 131071, 262143, 524287, 1048575, 2097151, 4194303, 8388607, 16777215, 33554431, 67108863, 134217727, 268435455, 536870911, 1073741823, 2147483647, 4294967295, 8589934591, 17179869183, 34359738367, 68719476735, 68719476735, 68719476735, 481036337151, 1099511627775, 2199023255551, 4398046511103, 8796093022207, 8796093022207, 35184372088831, 70368744177663, 140737488355327, 281474976710655, 562949953421311, 1125899906842623, 2251799813685247, 4503599627370495, 9007199254740991, 18014398509481983, 36028797018963967] 3 .push (wLoad 2 true (.v 0)))) ((zGD (.l 1) true .push (zCallD (cy Y) [0, 1, 3, 7, 15, 31, 63, 127, 255, 511, 1023, 2047, 4095, 8191, 16383, 32767, 65535, 131071, 262143, 524287, 1048575, 2097151, 4194303, 8388607, 16777215, 33554431, 67108863, 134217727, 268435455, 536870911, 1073741823, 2147483647, 4294967295, 8589934591, 17179869183, 34359738367, 68719476735, 68719476735, 68719476735, 481036337151, 1099511627775, 2199023255551, 4398046511103, 8796093022207, 8796093022207, 35184372088831, 70368744177663, 140737488355327, 281474976710655, 562949953421311, 1125899906842623, 2251799813685247, 4503599627370495, 9007199254740991, 18014398509481983, 36028797018963967] 4 22 [(.l 0)] .push)) ((zGD (.l 2) true .push (fun k sp => zDst .push (vLenL (.l 0)) (k sp))) ((zGD (.l 3) true .push (fun k sp => zDst .push (vInt E fEql .eql 3 false true (.l 0) (.k (.int .i64 2))) (k sp))) ((fun k sp => zDst .push (vPick (.l 4) (.l 0) (.k (.bool false))) (k sp)) ((zGD (.l 0) true .push (zDstWD [0, 1, 3, 7, 15, 31, 63, 127, 255, 511, 1023, 2047, 4095, 8191, 16383, 32767, 65535, 131071, 262143, 524287, 1048575, 2097151, 4194303, 8388607, 16777215, 33554431, 67108863, 134217727, 268435455, 536870911, 1073741823, 2147483647, 4294967295, 8589934591, 17179869183, 34359738367, 68719476735, 68719476735, 68719476735, 481036337151, 1099511627775, 2199023255551, 4398046511103, 8796093022207, 8796093022207, 35184372088831, 70368744177663, 140737488355327, 281474976710655, 562949953421311, 1125899906842623, 2251799813685247, 4503599627370495, 9007199254740991, 18014398509481983, 36028797018963967] 9 .push (wLoad 2 true (.v 1)))) ((zGD (.l 1) true .push (zCallD (cy Y) [0, 1, 3, 7, 15, 31, 63, 127, 255, 511, 1023, 2047, 4095, 8191, 16383, 32767, 65535, 131071, 262143, 524287, 1048575, 2097151, 4194303, 8388607, 16777215, 33554431, 67108863, 134217727, 268435455, 536870911, 1073741823, 2147483647, 4294967295, 8589934591, 17179869183, 34359738367, 68719476735, 68719476735, 68719476735, 481036337151, 1099511627775, 2199023255551, 4398046511103, 8796093022207, 8796093022207, 35184372088831, 70368744177663, 140737488355327, 281474976710655, 562949953421311, 1125899906842623, 2251799813685247, 4503599627370495, 9007199254740991, 18014398509481983, 36028797018963967] 10 22 [(.l 0)] .push)) ((zGD (.l 2) true .push (fun k sp => zDst .push (vLenL (.l 0)) (k sp))) ((zGD (.l 3) true .push (fun k sp => zDst .push (vInt E fEql .eql 3 false true (.l 0) (.k (.int .i64 1))) (k sp))) ((fun k sp => zDst .push (vPick (.l 4) (.l 0) (.k (.bool false))) (k sp)) ((zGD (.l 0) true .push (zDstWD [0, 1, 3, 7, 15, 31, 63, 127, 255, 511, 1023, 2047, 4095, 8191, 16383, 32767, 65535, 131071, 262143, 524287, 1048575, 2097151, 4194303, 8388607, 16777215, 33554431, 67108863, 134217727, 268435455, 536870911, 1073741823, 2147483647, 4294967295, 8589934591, 17179869183, 34359738367, 68719476735, 68719476735, 68719476735, 481036337151, 1099511627775, 2199023255551, 4398046511103, 8796093022207, 8796093022207, 35184372088831, 70368744177663, 140737488355327, 281474976710655, 562949953421311, 1125899906842623, 2251799813685247, 4503599627370495, 9007199254740991, 18014398509481983, 36028797018963967] 15 .push (wLoad 2 true (.v 2)))) ((zGD (.l 1) true .push (zCallD (cy Y) [0, 1, 3, 7, 15, 31, 63, 127, 255, 511, 1023, 2047, 4095, 8191, 16383, 32767, 65535, 131071, 262143, 524287, 1048575, 2097151, 4194303, 8388607, 16777215, 33554431, 67108863, 134217727, 268435455, 536870911, 1073741823, 2147483647, 4294967295, 8589934591, 17179869183, 34359738367, 68719476735, 68719476735, 68719476735, 481036337151, 1099511627775, 2199023255551, 4398046511103, 8796093022207, 8796093022207, 35184372088831, 70368744177663, 140737488355327, 281474976710655, 562949953421311, 1125899906842623, 2251799813685247, 4503599627370495, 9007199254740991, 18014398509481983, 36028797018963967] 16 26 [(.l 0), (.k (.str [109, 49]))] .push)) ((zGD (.l 2) true .push (fun k sp => zDst .push (vInt E fEql .eql 3 false true (.l 0) (.k (.int .i64 3))) (k sp))) ((fun k sp => zDst .push (vPick (.l 3) (.l 0) (.k (.bool false))) (k sp)) ((zGD (.l 0) true .push (zDstWD [0, 1, 3, 7, 15, 31, 63, 127, 255, 511, 1023, 2047, 4095, 8191, 16383, 32767, 65535, 131071, 262143, 524287, 1048575, 2097151, 4194303, 8388607, 16777215, 33554431, 67108863, 134217727, 268435455, 536870911, 1073741823, 2147483647, 4294967295, 8589934591, 17179869183, 34359738367, 68719476735, 68719476735, 68719476735, 481036337151, 1099511627775, 2199023255551, 4398046511103, 8796093022207, 8796093022207, 35184372088831, 70368744177663, 140737488355327, 281474976710655, 562949953421311, 1125899906842623, 2251799813685247, 4503599627370495, 9007199254740991, 18014398509481983, 36028797018963967] 20 .push (wLoad 2 true (.v 0)))) ((zGD (.l 1) true .push (zCallD (cy Y) [0, 1, 3, 7, 15, 31, 63, 127, 255, 511, 1023, 2047, 4095, 8191, 16383, 32767, 65535, 131071, 262143, 524287, 1048575, 2097151, 4194303, 8388607, 16777215, 33554431, 67108863, 134217727, 268435455, 536870911, 1073741823, 2147483647, 4294967295, 8589934591, 17179869183, 34359738367, 68719476735, 68719476735, 68719476735, 481036337151, 1099511627775, 2199023255551, 4398046511103, 8796093022207, 8796093022207, 35184372088831, 70368744177663, 140737488355327, 281474976710655, 562949953421311, 1125899906842623, 2251799813685247, 4503599627370495, 9007199254740991, 18014398509481983, 36028797018963967] 21 26 [(.l 0), (.k (.str [109, 49]))] .push)) ((zGD (.l 2) true .push (fun k sp => zDst .push (vInt E fEql .eql 3 false true (.l 0) (.k (.int .i64 2))) (k sp))) ((fun k sp => zDst .push (vPick (.l 3) (.l 0) (.k (.bool false))) (k sp)) ((zGD (.l 0) true .push (zDstWD [0, 1, 3, 7, 15, 31, 63, 127, 255, 511, 1023, 2047, 4095, 8191, 16383, 32767, 65535, 131071, 262143, 524287, 1048575, 2097151, 4194303, 8388607, 16777215, 33554431, 67108863, 134217727, 268435455, 536870911, 1073741823, 2147483647, 4294967295, 8589934591, 17179869183, 34359738367, 68719476735, 68719476735, 68719476735, 481036337151, 1099511627775, 2199023255551, 4398046511103, 8796093022207, 8796093022207, 35184372088831, 70368744177663, 140737488355327, 281474976710655, 562949953421311, 1125899906842623, 2251799813685247, 4503599627370495, 9007199254740991, 18014398509481983, 36028797018963967] 25 .push (wLoad 2 true (.v 3)))) ((zGD (.l 1) true .push (zCallD (cy Y) [0, 1, 3, 7, 15, 31, 63, 127, 255, 511, 1023, 2047, 4095, 8191, 16383, 32767, 65535, 131071, 262143, 524287, 1048575, 2097151, 4194303, 8388607, 16777215, 33554431, 67108863, 134217727, 268435455, 536870911, 1073741823, 2147483647, 4294967295, 8589934591, 17179869183, 34359738367, 68719476735, 68719476735, 68719476735, 481036337151, 1099511627775, 2199023255551, 4398046511103, 8796093022207, 8796093022207, 35184372088831, 70368744177663, 140737488355327, 281474976710655, 562949953421311, 1125899906842623, 2251799813685247, 4503599627370495, 9007199254740991, 18014398509481983, 36028797018963967] 26 22 [(.l 0)] .push)) ((zGD (.l 2) true .push (fun k sp => zDst .push (vLenL (.l 0)) (k sp))) ((zGD (.l 3) true .push (fun k sp => zDst .push (vInt E fEql .eql 3 false true (.l 0) (.k (.int .i64 1))) (k sp))) ((fun k sp => zDst .push (vPick (.l 4) (.l 0) (.k (.bool false))) (k sp)) ((zGD (.l 0) true .push (zDstWD [0, 1, 3, 7, 15, 31, 63, 127, 255, 511, 1023, 2047, 4095, 8191, 16383, 32767, 65535, 131071, 262143, 524287, 1048575, 2097151, 4194303, 8388607, 16777215, 33554431, 67108863, 134217727, 268435455, 536870911, 1073741823, 2147483647, 4294967295, 8589934591, 17179869183, 34359738367, 68719476735, 68719476735, 68719476735, 481036337151, 1099511627775, 2199023255551, 4398046511103, 8796093022207, 8796093022207, 35184372088831, 70368744177663, 140737488355327, 281474976710655, 562949953421311, 1125899906842623, 2251799813685247, 4503599627370495, 9007199254740991, 18014398509481983, 36028797018963967] 31 .push (wLoad 2 true (.v 3)))) ((zGD (.l 1) true .push (zCallD (cy Y) [0, 1, 3, 7, 15, 31, 63, 127, 255, 511, 1023, 2047, 4095, 8191, 16383, 32767, 65535, 131071, 262143, 524287, 1048575, 2097151, 4194303, 8388607, 16777215, 33554431, 67108863, 134217727, 268435455, 536870911, 1073741823, 2147483647, 4294967295, 8589934591, 17179869183, 34359738367, 68719476735, 68719476735, 68719476735, 481036337151, 1099511627775, 2199023255551, 4398046511103, 8796093022207, 8796093022207, 35184372088831, 70368744177663, 140737488355327, 281474976710655, 562949953421311, 1125899906842623, 2251799813685247, 4503599627370495, 9007199254740991, 18014398509481983, 36028797018963967] 32 26 [(.l 0), (.k (.str [109, 49]))] .push)) ((zGD (.l 2) true .push (fun k sp => zDst .push (vInt E fEql .eql 3 false true (.l 0) (.k (.int .i64 3))) (k sp))) ((fun k sp => zDst .push (vPick (.l 3) (.l 0) (.k (.bool false))) (k sp)) ((zGD (.l 0) true .push (zDstWD [0, 1, 3, 7, 15, 31, 63, 127, 255, 511, 1023, 2047, 4095, 8191, 16383, 32767, 65535, 131071, 262143, 524287, 1048575, 2097151, 4194303, 8388607, 16777215, 33554431, 67108863, 134217727, 268435455, 536870911, 1073741823, 2147483647, 4294967295, 8589934591, 17179869183, 34359738367, 68719476735, 68719476735, 68719476735, 481036337151, 1099511627775, 2199023255551, 4398046511103, 8796093022207, 8796093022207, 35184372088831, 70368744177663, 140737488355327, 281474976710655, 562949953421311, 1125899906842623, 2251799813685247, 4503599627370495, 9007199254740991, 18014398509481983, 36028797018963967] 36 .push (wLoad 2 true (.v 3)))) ((zGD (.l 1) true .push (zDstWD [0, 1, 3, 7, 15, 31, 63, 127, 255, 511, 1023, 2047, 4095, 8191, 16383, 32767, 65535, 131071, 262143, 524287, 1048575, 2097151, 4194303, 8388607, 16777215, 33554431, 67108863, 134217727, 268435455, 536870911, 1073741823, 2147483647, 4294967295, 8589934591, 17179869183, 34359738367, 68719476735, 68719476735, 68719476735, 481036337151, 1099511627775, 2199023255551, 4398046511103, 8796093022207, 8796093022207, 35184372088831, 70368744177663, 140737488355327, 281474976710655, 562949953421311, 1125899906842623, 2251799813685247, 4503599627370495, 9007199254740991, 18014398509481983, 36028797018963967] 37 .push (wLoad 2 true (.v 2)))) ((zGD (.l 2) true .push (zDstWD [0, 1, 3, 7, 15, 31, 63, 127, 255, 511, 1023, 2047, 4095, 8191, 16383, 32767, 65535, 131071, 262143, 524287, 1048575, 2097151, 4194303, 8388607, 16777215, 33554431, 67108863, 134217727, 268435455, 536870911, 1073741823, 2147483647, 4294967295, 8589934591, 17179869183, 34359738367, 68719476735, 68719476735, 68719476735, 481036337151, 1099511627775, 2199023255551, 4398046511103, 8796093022207, 8796093022207, 35184372088831, 70368744177663, 140737488355327, 281474976710655, 562949953421311, 1125899906842623, 2251799813685247, 4503599627370495, 9007199254740991, 18014398509481983, 36028797018963967] 38 .push (wLoad 2 true (.v 1)))) ((zGD (.l 3) true .push (zCallD (cy Y) [0, 1, 3, 7, 15, 31, 63, 127, 255, 511, 1023, 2047, 4095, 8191, 16383, 32767, 65535, 131071, 262143, 524287, 1048575, 2097151, 4194303, 8388607, 16777215, 33554431, 67108863, 134217727, 268435455, 536870911, 1073741823, 2147483647, 4294967295, 8589934591, 17179869183, 34359738367, 68719476735, 68719476735, 68719476735, 481036337151, 1099511627775, 2199023255551, 4398046511103, 8796093022207, 8796093022207, 35184372088831, 70368744177663, 140737488355327, 281474976710655, 562949953421311, 1125899906842623, 2251799813685247, 4503599627370495, 9007199254740991, 18014398509481983, 36028797018963967] 39 19 [(.l 1), (.l 0)] .push)) ((zGD (.l 4) true .push (zCallD (cy Y) [0, 1, 3, 7, 15, 31, 63, 127, 255, 511, 1023, 2047, 4095, 8191, 16383, 32767, 65535, 131071, 262143, 524287, 1048575, 2097151, 4194303, 8388607, 16777215, 33554431, 67108863, 134217727, 268435455, 536870911, 1073741823, 2147483647, 4294967295, 8589934591, 17179869183, 34359738367, 68719476735, 68719476735, 68719476735, 481036337151, 1099511627775, 2199023255551, 4398046511103, 8796093022207, 8796093022207, 35184372088831, 70368744177663, 140737488355327, 281474976710655, 562949953421311, 1125899906842623, 2251799813685247, 4503599627370495, 9007199254740991, 18014398509481983, 36028797018963967] 40 14 [(.l 3), (.l 0)] .push)) ((fun k sp => zDst .push (vPick (.l 5) (.l 0) (.k (.bool false))) (k sp)) ((zGD (.l 0) true .push (zDstWD [0, 1, 3, 7, 15, 31, 63, 127, 255, 511, 1023, 2047, 4095, 8191, 16383, 32767, 65535, 131071, 262143, 524287, 1048575, 2097151, 4194303, 8388607, 16777215, 33554431, 67108863, 134217727, 268435455, 536870911, 1073741823, 2147483647, 4294967295, 8589934591, 17179869183, 34359738367, 68719476735, 68719476735, 68719476735, 481036337151, 1099511627775, 2199023255551, 4398046511103, 8796093022207, 8796093022207, 35184372088831, 70368744177663, 140737488355327, 281474976710655, 562949953421311, 1125899906842623, 2251799813685247, 4503599627370495, 9007199254740991, 18014398509481983, 36028797018963967] 43 .push (wLoad 2 true (.v 0)))) ((zGD (.l 1) true .push (zDstWD [0, 1, 3, 7, 15, 31, 63, 127, 255, 511, 1023, 2047, 4095, 8191, 16383, 32767, 65535, 131071, 262143, 524287, 1048575, 2097151, 4194303, 8388607, 16777215, 33554431, 67108863, 134217727, 268435455, 536870911, 1073741823, 2147483647, 4294967295, 8589934591, 17179869183, 34359738367, 68719476735, 68719476735, 68719476735, 481036337151, 1099511627775, 2199023255551, 4398046511103, 8796093022207, 8796093022207, 35184372088831, 70368744177663, 140737488355327, 281474976710655, 562949953421311, 1125899906842623, 2251799813685247, 4503599627370495, 9007199254740991, 18014398509481983, 36028797018963967] 44 .push (wLoad 2 true (.v 1)))) ((zGD (.l 2) true .push (zCallD (cy Y) [0, 1, 3, 7, 15, 31, 63, 127, 255, 511, 1023, 2047, 4095, 8191, 16383, 32767, 65535, 131071, 262143, 524287, 1048575, 2097151, 4194303, 8388607, 16777215, 33554431, 67108863, 134217727, 268435455, 536870911, 1073741823, 2147483647, 4294967295, 8589934591, 17179869183, 34359738367, 68719476735, 68719476735, 68719476735, 481036337151, 1099511627775, 2199023255551, 4398046511103, 8796093022207, 8796093022207, 35184372088831, 70368744177663, 140737488355327, 281474976710655, 562949953421311, 1125899906842623, 2251799813685247, 4503599627370495, 9007199254740991, 18014398509481983, 36028797018963967] 45 14 [(.l 1), (.l 0)] .push)) ((zGD (.l 3) true .push (fun k sp => zDst .push (vNot (.l 0)) (k sp))) ((fun k sp => zDst .push (vPick (.l 4) (.l 0) (.k (.bool false))) (k sp)) ((zGD (.l 0) true .push (zStepD E (cy Y) [0, 1, 3, 7, 15, 31, 63, 127, 255, 511, 1023, 2047, 4095, 8191, 16383, 32767, 65535, 131071, 262143, 524287, 1048575, 2097151, 4194303, 8388607, 16777215, 33554431, 67108863, 134217727, 268435455, 536870911, 1073741823, 2147483647, 4294967295, 8589934591, 17179869183, 34359738367, 68719476735, 68719476735, 68719476735, 481036337151, 1099511627775, 2199023255551, 4398046511103, 8796093022207, 8796093022207, 35184372088831, 70368744177663, 140737488355327, 281474976710655, 562949953421311, 1125899906842623, 2251799813685247, 4503599627370495, 9007199254740991, 18014398509481983, 36028797018963967] n0 ⟨.build 56 [(0, (.k (.int .i64 9))), (1, (.k (.int .u64 1)))], .push, none, false, 49, none⟩)) ((zGD (.l 1) true .push (zStepD E (cy Y) [0, 1, 3, 7, 15, 31, 63, 127, 255, 511, 1023, 2047, 4095, 8191, 16383, 32767, 65535, 131071, 262143, 524287, 1048575, 2097151, 4194303, 8388607, 16777215, 33554431, 67108863, 134217727, 268435455, 536870911, 1073741823, 2147483647, 4294967295, 8589934591, 17179869183, 34359738367, 68719476735, 68719476735, 68719476735, 481036337151, 1099511627775, 2199023255551, 4398046511103, 8796093022207, 8796093022207, 35184372088831, 70368744177663, 140737488355327, 281474976710655, 562949953421311, 1125899906842623, 2251799813685247, 4503599627370495, 9007199254740991, 18014398509481983, 36028797018963967] n0 ⟨.buildSlice 22 1 [(0, (.l 0))], .push, none, false, 50, (some 10)⟩)) ((zGD (.l 2) true .push (zStepD E (cy Y) [0, 1, 3, 7, 15, 31, 63, 127, 255, 511, 1023, 2047, 4095, 8191, 16383, 32767, 65535, 131071, 262143, 524287, 1048575, 2097151, 4194303, 8388607, 16777215, 33554431, 67108863, 134217727, 268435455, 536870911, 1073741823, 2147483647, 4294967295, 8589934591, 17179869183, 34359738367, 68719476735, 68719476735, 68719476735, 481036337151, 1099511627775, 2199023255551, 4398046511103, 8796093022207, 8796093022207, 35184372088831, 70368744177663, 140737488355327, 281474976710655, 562949953421311, 1125899906842623, 2251799813685247, 4503599627370495, 9007199254740991, 18014398509481983, 36028797018963967] n0 ⟨.build 25 [(0, (.l 0))], .push, none, false, 51, none⟩)) ((zGD (.l 3) true .push (zCallD (cy Y) [0, 1, 3, 7, 15, 31, 63, 127, 255, 511, 1023, 2047, 4095, 8191, 16383, 32767, 65535, 131071, 262143, 524287, 1048575, 2097151, 4194303, 8388607, 16777215, 33554431, 67108863, 134217727, 268435455, 536870911, 1073741823, 2147483647, 4294967295, 8589934591, 17179869183, 34359738367, 68719476735, 68719476735, 68719476735, 481036337151, 1099511627775, 2199023255551, 4398046511103, 8796093022207, 8796093022207, 35184372088831, 70368744177663, 140737488355327, 281474976710655, 562949953421311, 1125899906842623, 2251799813685247, 4503599627370495, 9007199254740991, 18014398509481983, 36028797018963967] 52 12 [(.l 0)] .push)) ((zGD (.l 4) true .push (fun k sp => zDst .push (vNot (.l 0)) (k sp))) ((fun k sp => zDst .push (vPick (.l 5) (.l 0) (.k (.bool false))) (k sp)) ((fun k sp => zDst (.var 4) (vMv (.l 0)) (k sp)) k)))))))))))))))))))))))))))))))))))))))))))))))
  zRet)))))), [.tmp (.v 4)]⟩
theorem G11_ok (fn : Nat → Option Func) (pu : Nat → Bool) (pr : Nat → List AV → Option (Heap → Option (Eff × Acc))) : ZOk ⟨Try.tyT, fn, pu, pr⟩ npT F11 (G11 ⟨Try.tyT, fn, pu, pr⟩) := ⟨rfl, rfl, rfl, fun cy Y k => by kernel_rfl⟩
noncomputable def F12 : FFn := ⟨89, [0, 1, 11, 10, 9, 4, 3, 48, 47, 46, 7, 5, 2], (.seq (.reg [⟨.box 25 (.v 0), (.var 1), none, false, 0, (some 0)⟩,
    ⟨.mv (.k (.bool false)), (.var 12), none, true, 1, none⟩]) (.seq (.seq (.reg [⟨.fieldAddr 25 (.v 1) 0, .push, none, true, 0, none⟩,
    ⟨.load 22 (.l 0), (.var 4), none, true, 1, none⟩,
    ⟨.len 22 (.v 4), (.var 3), none, false, 2, none⟩,
    ⟨.mv (.k (.int .i64 0)), (.var 2), none, true, 3, none⟩]) (.block 0 (.loop (.seq (.reg [⟨.bin .lss 3 false false (.v 2) (.v 3), .push, none, false, 0, none⟩]) (.seq (.cond (.l 0) .skip (.exit 0)) (.seq (.block 1 (.seq (.reg [⟨.indexAddr 22 (.v 4) (.v 2), .push, none, true, 1, none⟩,
    ⟨.load 56 (.l 0), .push, none, true, 2, none⟩,
    ⟨.alloc 56, (.var 5), none, false, 3, (some 0)⟩,
    ⟨.mv (.v 2), (.var 6), none, true, 4, none⟩,
    ⟨.store 56 (.v 5) (.l 0), .none, none, false, 5, none⟩]) (.seq (.dreg 1 [0, 1, 3, 7, 15, 31, 63, 127, 255, 511, 1023, 2047, 4095, 8191, 16383, 32767, 65535, 131071, 262143, 131071, 655359, 2097151, 4194303, 131071, 16777215, 33554431, 67108863, 134217727] [⟨.fieldAddr 56 (.v 5) 0, .push, none, true, 0, none⟩,
    ⟨.load 3 (.l 0), .push, none, true, 1, none⟩,
    ⟨.bin .lss 3 false true (.l 0) (.k (.int .i64 0)), .push, none, false, 2, none⟩,
    ⟨.fieldAddr 56 (.v 5) 0, .push, (some ((.l 0), false)), true, 4, none⟩,
    ⟨.load 3 (.l 0), .push, (some ((.l 1), false)), true, 5, none⟩,
    ⟨.bin .geq 3 false true (.l 0) (.k (.int .i64 4)), .push, (some ((.l 2), false)), false, 6, none⟩,
    ⟨.pick (.l 3) (.k (.bool true)) (.l 0), .push, none, true, 7, none⟩,
    ⟨.fieldAddr 56 (.v 5) 1, .push, (some ((.l 0), false)), true, 9, none⟩,
    ⟨.load 42 (.l 0), .push, (some ((.l 1), false)), true, 10, none⟩,
    ⟨.bin .eql 42 false true (.l 0) (.k (.int .u64 0)), .push, (some ((.l 2), false)), false, 11, none⟩,
    ⟨.pick (.l 3) (.k (.bool true)) (.l 0), .push, none, true, 12, none⟩,
    ⟨.mv (.v 6), .push, (some ((.l 0), false)), true, 14, none⟩,
    ⟨.bin .gtr 3 false true (.l 0) (.k (.int .i64 0)), .push, (some ((.l 1), false)), false, 15, none⟩,
    ⟨.mv (.l 0), .push, (some ((.l 2), false)), true, 16, none⟩,
    ⟨.fieldAddr 25 (.v 1) 0, .push, (some ((.l 0), true)), true, 17, none⟩,
    ⟨.load 22 (.l 0), .push, (some ((.l 1), true)), true, 18, none⟩,
    ⟨.mv (.v 6), .push, (some ((.l 2), true)), true, 19, none⟩,
    ⟨.bin .sub 3 false true (.l 0) (.k (.int .i64 1)), .push, (some ((.l 3), true)), false, 20, none⟩,
    ⟨.indexAddr 22 (.l 2) (.l 0), .push, (some ((.l 4), true)), true, 21, none⟩,
    ⟨.load 56 (.l 0), .push, (some ((.l 5), true)), true, 22, none⟩,
    ⟨.load 56 (.v 5), .push, (some ((.l 6), true)), true, 23, none⟩,
    ⟨.call 47 [(.l 1), (.l 0)], .push, (some ((.l 7), true)), false, 24, (some 0)⟩,
    ⟨.bin .geq 3 false true (.l 0) (.k (.int .i64 0)), .push, (some ((.l 8), true)), false, 25, none⟩,
    ⟨.pick (.l 9) (.l 0) (.k (.bool false)), .push, (some ((.l 12), false)), true, 26, none⟩,
    ⟨.pick (.l 13) (.k (.bool true)) (.l 0), .push, none, true, 27, none⟩]) (.cond (.l 0) (.seq (.reg [⟨.mv (.k (.bool false)), (.var 12), none, true, 0, none⟩]) .ret) .skip)))) (.reg [⟨.bin .add 3 false true (.v 2) (.k (.int .i64 1)), .push, none, false, 0, none⟩,
    ⟨.mv (.l 0), (.var 2), none, true, 1, none⟩]))))))) (.seq (.reg [⟨.mv (.k (.sl 0 [] true)), (.var 11), none, true, 0, none⟩]) (.seq (.seq (.reg [⟨.fieldAddr 25 (.v 1) 1, .push, none, true, 0, none⟩,
    ⟨.load 23 (.l 0), (.var 9), none, true, 1, none⟩,
    ⟨.len 23 (.v 9), (.var 8), none, false, 2, none⟩,
    ⟨.mv (.k (.int .i64 0)), (.var 7), none, true, 3, none⟩]) (.block 2 (.loop (.seq (.reg [⟨.bin .lss 3 false false (.v 7) (.v 8), .push, none, false, 0, none⟩]) (.seq (.cond (.l 0) .skip (.exit 2)) (.seq (.block 3 (.seq (.reg [⟨.indexAddr 23 (.v 9) (.v 7), .push, none, true, 0, none⟩,
    ⟨.load 60 (.l 0), .push, none, true, 1, none⟩,
    ⟨.alloc 60, (.var 10), none, false, 2, (some 0)⟩,
    ⟨.store 60 (.v 10) (.l 0), .none, none, false, 3, none⟩]) (.seq (.seq (.reg [⟨.fieldAddr 60 (.v 10) 0, .push, none, true, 0, none⟩,
    ⟨.load 9 (.l 0), .push, none, true, 1, none⟩,
    ⟨.bin .eql 9 false true (.l 0) (.k (.str [])), .push, none, false, 2, none⟩,
    ⟨.fieldAddr 60 (.v 10) 0, .push, (some ((.l 0), false)), true, 4, none⟩,
    ⟨.load 9 (.l 0), .push, (some ((.l 1), false)), true, 5, none⟩,
    ⟨.len 9 (.l 0), .push, (some ((.l 2), false)), false, 6, none⟩,
    ⟨.bin .gtr 3 false true (.l 0) (.k (.int .i64 8)), .push, (some ((.l 3), false)), false, 7, none⟩,
    ⟨.pick (.l 4) (.k (.bool true)) (.l 0), .push, none, true, 8, none⟩,
    ⟨.fieldAddr 60 (.v 10) 1, .push, (some ((.l 0), false)), true, 10, none⟩,
    ⟨.load 42 (.l 0), .push, (some ((.l 1), false)), true, 11, none⟩,
    ⟨.bin .eql 42 false true (.l 0) (.k (.int .u64 0)), .push, (some ((.l 2), false)), false, 12, none⟩,
    ⟨.pick (.l 3) (.k (.bool true)) (.l 0), .push, none, true, 13, none⟩,
    ⟨.fieldAddr 60 (.v 10) 2, .push, (some ((.l 0), false)), true, 15, none⟩,
    ⟨.load 42 (.l 0), .push, (some ((.l 1), false)), true, 16, none⟩,
    ⟨.bin .lss 42 false true (.l 0) (.k (.int .u64 1)), .push, (some ((.l 2), false)), false, 17, none⟩,
    ⟨.pick (.l 3) (.k (.bool true)) (.l 0), .push, none, true, 18, none⟩,
    ⟨.fieldAddr 60 (.v 10) 2, .push, (some ((.l 0), false)), true, 20, none⟩,
    ⟨.load 42 (.l 0), .push, (some ((.l 1), false)), true, 21, none⟩,
    ⟨.bin .gtr 42 false true (.l 0) (.k (.int .u64 3)), .push, (some ((.l 2), false)), false, 22, none⟩,
    ⟨.pick (.l 3) (.k (.bool true)) (.l 0), .push, none, true, 23, none⟩]) (.cond (.l 0) (.seq (.reg [⟨.mv (.k (.bool false)), (.var 12), none, true, 0, none⟩]) .ret) .skip)) (.reg [⟨.mv (.v 11), .push, none, true, 0, none⟩,
    ⟨.fieldAddr 60 (.v 10) 0, .push, none, true, 1, none⟩,
    ⟨.load 9 (.l 0), .push, none, true, 2, none⟩,
    ⟨.buildSlice 58 1 [(0, (.l 0))], .push, none, false, 3, (some 0)⟩,
    ⟨.append 58 58 (.l 3) (.l 0), .push, none, false, 4, (some 1)⟩,
    ⟨.mv (.l 0), (.var 11), none, true, 5, none⟩])))) (.reg [⟨.bin .add 3 false true (.v 7) (.k (.int .i64 1)), .push, none, false, 0, none⟩,
    ⟨.mv (.l 0), (.var 7), none, true, 1, none⟩]))))))) (.seq (.reg [⟨.call 48 [(.v 11)], .push, none, false, 1, (some 0)⟩,
    ⟨.mv (.v 11), .push, (some ((.l 0), true)), true, 3, none⟩,
    ⟨.len 58 (.l 0), .push, (some ((.l 1), true)), false, 4, none⟩,
    ⟨.bin .leq 3 false true (.l 0) (.k (.int .i64 40)), .push, (some ((.l 2), true)), false, 5, none⟩,
    ⟨.pick (.l 3) (.l 0) (.k (.bool false)), .push, none, true, 6, none⟩,
    ⟨.mv (.l 0), (.var 12), none, true, 7, none⟩]) .ret))))), [.tmp (.v 12)]⟩
noncomputable def G12 (E : Env) : ZFn := ⟨89, [0, 1, 11, 10, 9, 4, 3, 48, 47, 46, 7, 5, 2], fun cy Y fuel =>
  (zSeq (zReg fun k => (zStep E (cy Y) ⟨.box 25 (.v 0), (.var 1), none, false, 0, (some 0)⟩) ((zDst (.var 12) (vMv (.k (.bool false)))) k))
  (zSeq (zSeq (zReg fun k => (zDst .push (vFieldAddr 0 (.v 1))) ((zDstW (.var 4) (wLoad 1 false (.l 0))) ((zDst (.var 3) (vLenL (.v 4))) ((zDst (.var 2) (vMv (.k (.int .i64 0)))) k))))
  (zBlock 0 (zLoop fuel (zSeq (zReg fun k => (zDst .push (vInt E fLss .lss 3 false false (.v 2) (.v 3))) k)
  (zSeq (zCond (.l 0) zSkip (zExit 0))
  (zSeq (zBlock 1 (zSeq (zReg fun k => (zDst .push (vIndexAddr 2 (.v 4) (.v 2))) ((zDstW .push (wLoad 2 true (.l 0))) ((zStep E (cy Y) ⟨.alloc 56, (.var 5), none, false, 3, (some 0)⟩) ((zDst (.var 6) (vMv (.v 2))) ((zStep E (cy Y) ⟨.store 56 (.v 5) (.l 0), .none, none, false, 5, none⟩) k)))))
  (zSeq (zDreg 1 fun n0 k => (fun k sp => zDst .push (vFieldAddr 0 (.v 5)) (k sp)) ((zDstWD [0, 1, 3, 7, 15, 31, 63, 127, 255, 511, 1023, 2047, 4095, 8191, 16383, 32767, 65535, 131071, 262143, 131071, 655359, 2097151, 4194303, 131071, 16777215, 33554431, 67108863, 134217727] 1 .push (wLoad 1 false (.l 0))) ((fun k sp => zDst .push (vInt E fLss .lss 3 false true (.l 0) (.k (.int .i64 0))) (k sp)) ((zGD (.l 0) false .push (fun k sp => zDst .push (vFieldAddr 0 (.v 5)) (k sp))) ((zGD (.l 1) false .push (zDstWD [0, 1, 3, 7, 15, 31, 63, 127, 255, 511, 1023, 2047, 4095, 8191, 16383, 32767, 65535, 131071, 262143, 131071, 655359, 2097151, 4194303, 131071, 16777215, 33554431, 67108863, 134217727] 5 .push (wLoad 1 false (.l 0)))) ((zGD (.l 2) false .push (fun k sp => zDst .push (vInt E (fGen .geq) .geq 3 false true (.l 0) (.k (.int .i64 4))) (k sp))) ((fun k sp => zDst .push (vPick (.l 3) (.k (.bool true)) (.l 0)) (k sp)) ((zGD (.l 0) false .push (fun k sp => zDst .push (vFieldAddr 1 (.v 5)) (k sp))) ((zGD (.l 1) false .push (zDstWD [0, 1, 3, 7, 15, 31, 63, 127, 255, 511, 1023, 2047, 4095, 8191, 16383, 32767, 65535, 131071, 262143, 131071, 655359, 2097151, 4194303, 131071, 16777215, 33554431, 67108863, 134217727] 10 .push (wLoad 1 false (.l 0)))) ((zGD (.l 2) false .push (fun k sp => zDst .push (vInt E fEql .eql 42 false true (.l 0) (.k (.int .u64 0))) (k sp))) ((fun k sp => zDst .push (vPick (.l 3) (.k (.bool true)) (.l 0)) (k sp)) ((zGD (.l 0) false .push (fun k sp => zDst .push (vMv (.v 6)) (k sp))) ((zGD (.l 1) false .push (fun k sp => zDst .push (vInt E fGtr .gtr 3 false true (.l 0) (.k (.int .i64 0))) (k sp))) ((zGD (.l 2) false .push (fun k sp => zDst .push (vMv (.l 0)) (k sp))) ((zGD (.l 0) true .push (fun k sp => zDst .push (vFieldAddr 0 (.v 1)) (k sp))) ((zGD (.l 1) true .push (zDstWD [0, 1, 3, 7, 15, 31, 63, 127, 255, 511, 1023, 2047, 4095, 8191, 16383, 32767, 65535, 131071, 262143, 131071, 655359, 2097151, 4194303, 131071, 16777215, 33554431, 67108863, 134217727] 18 .push (wLoad 1 false (.l 0)))) ((zGD (.l 2) true .push (fun k sp => zDst .push (vMv (.v 6)) (k sp))) ((zGD (.l 3) true .push (fun k sp => zDst .push (vInt E fSub .sub 3 false true (.l 0) (.k (.int .i64 1))) (k sp))) ((zGD (.l 4) true .push (fun k sp => zDst .push (vIndexAddr 2 (.l 2) (.l 0)) (k sp))) ((zGD (.l 5) true .push (zDstWD [0, 1, 3, 7, 15, 31, 63, 127, 255, 511, 1023, 2047, 4095, 8191, 16383, 32767, 65535, 131071, 262143, 131071, 655359, 2097151, 4194303, 131071, 16777215, 33554431, 67108863, 134217727] 22 .push (wLoad 2 true (.l 0)))) ((zGD (.l 6) true .push (zDstWD [0, 1, 3, 7, 15, 31, 63, 127, 255, 511, 1023, 2047, 4095, 8191, 16383, 32767, 65535, 131071, 262143, 131071, 655359, 2097151, 4194303, 131071, 16777215, 33554431, 67108863, 134217727] 23 .push (wLoad 2 true (.v 5)))) ((zGD (.l 7) true .push (zCallD (cy Y) [0, 1, 3, 7, 15, 31, 63, 127, 255, 511, 1023, 2047, 4095, 8191, 16383, 32767, 65535, 131071, 262143, 131071, 655359, 2097151, 4194303, 131071, 16777215, 33554431, 67108863, 134217727] 24 47 [(.l 1), (.l 0)] .push)) ((zGD (.l 8) true .push (fun k sp => zDst .push (vInt E (fGen .geq) .geq 3 false true (.l 0) (.k (.int .i64 0))) (k sp))) ((zGD (.l 12) false .push (fun k sp => zDst .push (vPick (.l 9) (.l 0) (.k (.bool false))) (k sp))) ((fun k sp => zDst .push (vPick (.l 13) (.k (.bool true)) (.l 0)) (k sp)) k)))))))))))))))))))))))))
  (zCond (.l 0) (zSeq (zReg fun k => (zDst (.var 12) (vMv (.k (.bool false)))) k)
  zRet) zSkip))))
  (zReg fun k => (zDst .push (vInt E fAdd .add 3 false true (.v 2) (.k (.int .i64 1)))) ((zDst (.var 2) (vMv (.l 0))) k))))))))
  (zSeq (zReg fun k => (zDst (.var 11) (vMv (.k (.sl 0 [] true)))) k)
  (zSeq (zSeq (zReg fun k => (zDst .push (vFieldAddr 1 (.v 1))) ((zDstW (.var 9) (wLoad 1 false (.l 0))) ((zDst (.var 8) (vLenL (.v 9))) ((zDst (.var 7) (vMv (.k (.int .i64 0)))) k))))
  (zBlock 2 (zLoop fuel (zSeq (zReg fun k => (zDst .push (vInt E fLss .lss 3 false false (.v 7) (.v 8))) k)
  (zSeq (zCond (.l 0) zSkip (zExit 2))
  (zSeq (zBlock 3 (zSeq (zReg fun k => (zDst .push (vIndexAddr 3 (.v 9) (.v 7))) ((zDstW .push (wLoad 3 true (.l 0))) ((zStep E (cy Y) ⟨.alloc 60, (.var 10), none, false, 2, (some 0)⟩) ((zStep E (cy Y) ⟨.store 60 (.v 10) (.l 0), .none, none, false, 3, none⟩) k))))
  (zSeq (zSeq (zReg fun k => (zDst .push (vFieldAddr 0 (.v 10))) ((zDstW .push (wLoad 1 false (.l 0))) ((zDst .push (vInt E fEql .eql 9 false true (.l 0) (.k (.str [])))) ((zG (.l 0) false .push (zDst .push (vFieldAddr 0 (.v 10)))) ((zG (.l 1) false .push (zDstW .push (wLoad 1 false (.l 0)))) ((zG (.l 2) false .push (zDst .push (vLenS (.l 0)))) ((zG (.l 3) false .push (zDst .push (vInt E fGtr .gtr 3 false true (.l 0) (.k (.int .i64 8))))) ((zDst .push (vPick (.l 4) (.k (.bool true)) (.l 0))) ((zG (.l 0) false .push (zDst .push (vFieldAddr 1 (.v 10)))) ((zG (.l 1) false .push (zDstW .push (wLoad 1 false (.l 0)))) ((zG (.l 2) false .push (zDst .push (vInt E fEql .eql 42 false true (.l 0) (.k (.int .u64 0))))) ((zDst .push (vPick (.l 3) (.k (.bool true)) (.l 0))) ((zG (.l 0) false .push (zDst .push (vFieldAddr 2 (.v 10)))) ((zG (.l 1) false .push (zDstW .push (wLoad 1 false (.l 0)))) ((zG (.l 2) false .push (zDst .push (vInt E fLss .lss 42 false true (.l 0) (.k (.int .u64 1))))) ((zDst .push (vPick (.l 3) (.k (.bool true)) (.l 0))) ((zG (.l 0) false .push (zDst .push (vFieldAddr 2 (.v 10)))) ((zG (.l 1) false .push (zDstW .push (wLoad 1 false (.l 0)))) ((zG (.l 2) false .push (zDst .push (vInt E fGtr .gtr 42 false true (.l 0) (.k (.int .u64 3))))) ((zDst .push (vPick (.l 3) (.k (.bool true)) (.l 0))) k))))))))))))))))))))
  (zCond (.l 0) (zSeq (zReg fun k => (zDst (.var 12) (vMv (.k (.bool false)))) k)
  zRet) zSkip))
  (zReg fun k => (zDst .push (vMv (.v 11))) ((zDst .push (vFieldAddr 0 (.v 10))) ((zDstW .push (wLoad 1 false (.l 0))) ((zStep E (cy Y) ⟨.buildSlice 58 1 [(0, (.l 0))], .push, none, false, 3, (some 0)⟩) ((zStep E (cy Y) ⟨.append 58 58 (.l 3) (.l 0), .push, none, false, 4, (some 1)⟩) ((zDst (.var 11) (vMv (.l 0))) k)))))))))
  (zReg fun k => (zDst .push (vInt E fAdd .add 3 false true (.v 7) (.k (.int .i64 1)))) ((zDst (.var 7) (vMv (.l 0))) k))))))))
  (zSeq (zReg fun k => (zCall (cy Y) 48 [(.v 11)] .push) ((zG (.l 0) true .push (zDst .push (vMv (.v 11)))) ((zG (.l 1) true .push (zDst .push (vLenL (.l 0)))) ((zG (.l 2) true .push (zDst .push (vInt E (fGen .leq) .leq 3 false true (.l 0) (.k (.int .i64 40))))) ((zDst .push (vPick (.l 3) (.l 0) (.k (.bool false)))) ((zDst (.var 12) (vMv (.l 0))) k))))))
  zRet))))), [.tmp (.v 12)]⟩
theorem G12_ok (fn : Nat → Option Func) (pu : Nat → Bool) (pr : Nat → List AV → Option (Heap → Option (Eff × Acc))) : ZOk ⟨Try.tyT, fn, pu, pr⟩ npT F12 (G12 ⟨Try.tyT, fn, pu, pr⟩) := ⟨rfl, rfl, rfl, fun cy Y k => by kernel_rfl⟩
noncomputable def F13 : FFn := ⟨105, [0, 3, 1, 4, 5, 6, 2], (.seq (.reg [⟨.box 25 (.v 0), (.var 2), none, false, 0, (some 0)⟩,
    ⟨.mv (.k (.bool false)), (.var 6), none, true, 1, none⟩]) (.seq (.seq (.reg [⟨.mv (.k (.int .i64 0)), (.var 1), none, true, 0, none⟩]) (.block 0 (.loop (.seq (.seq (.reg [⟨.fieldAddr 25 (.v 2) 0, .push, none, true, 1, none⟩,
    ⟨.load 22 (.l 0), .push, none, true, 2, none⟩,
    ⟨.len 22 (.l 0), .push, none, false, 3, none⟩,
    ⟨.bin .lss 3 false false (.v 1) (.l 0), .push, none, false, 4, none⟩]) (.cond (.l 0) .skip (.exit 0))) (.seq (.block 1 (.seq (.reg [⟨.fieldAddr 25 (.v 2) 0, .push, none, true, 0, none⟩,
    ⟨.load 22 (.l 0), .push, none, true, 1, none⟩,
    ⟨.indexAddr 22 (.l 0) (.v 1), .push, none, true, 3, none⟩,
    ⟨.load 56 (.l 0), .push, none, true, 4, none⟩,
    ⟨.alloc 56, (.var 3), none, false, 5, (some 0)⟩,
    ⟨.store 56 (.v 3) (.l 0), .none, none, false, 6, none⟩]) (.seq (.dreg 0 [0, 1, 3, 7, 15, 31, 63, 127, 255, 511, 1023, 2047, 4095, 8191, 16383, 32767, 65535, 131071, 262143, 131071, 655359, 2097151, 4194303, 8388607, 131071, 16908287, 67108863, 134217727, 268435455] [⟨.fieldAddr 56 (.v 3) 0, .push, none, true, 0, none⟩,
    ⟨.load 3 (.l 0), .push, none, true, 1, none⟩,
    ⟨.bin .lss 3 false true (.l 0) (.k (.int .i64 0)), .push, none, false, 2, none⟩,
    ⟨.fieldAddr 56 (.v 3) 0, .push, (some ((.l 0), false)), true, 4, none⟩,
    ⟨.load 3 (.l 0), .push, (some ((.l 1), false)), true, 5, none⟩,
    ⟨.bin .geq 3 false true (.l 0) (.k (.int .i64 4)), .push, (some ((.l 2), false)), false, 6, none⟩,
    ⟨.pick (.l 3) (.k (.bool true)) (.l 0), .push, none, true, 7, none⟩,
    ⟨.fieldAddr 56 (.v 3) 1, .push, (some ((.l 0), false)), true, 9, none⟩,
    ⟨.load 42 (.l 0), .push, (some ((.l 1), false)), true, 10, none⟩,
    ⟨.bin .eql 42 false true (.l 0) (.k (.int .u64 0)), .push, (some ((.l 2), false)), false, 11, none⟩,
    ⟨.pick (.l 3) (.k (.bool true)) (.l 0), .push, none, true, 12, none⟩,
    ⟨.mv (.v 1), .push, (some ((.l 0), false)), true, 14, none⟩,
    ⟨.bin .gtr 3 false true (.l 0) (.k (.int .i64 0)), .push, (some ((.l 1), false)), false, 15, none⟩,
    ⟨.mv (.l 0), .push, (some ((.l 2), false)), true, 16, none⟩,
    ⟨.fieldAddr 25 (.v 2) 0, .push, (some ((.l 0), true)), true, 17, none⟩,
    ⟨.load 22 (.l 0), .push, (some ((.l 1), true)), true, 18, none⟩,
    ⟨.mv (.v 1), .push, (some ((.l 2), true)), true, 19, none⟩,
    ⟨.bin .sub 3 false true (.l 0) (.k (.int .i64 1)), .push, (some ((.l 3), true)), false, 20, none⟩,
    ⟨.indexAddr 22 (.l 2) (.l 0), .push, (some ((.l 4), true)), true, 21, none⟩,
    ⟨.fieldAddr 56 (.l 0) 0, .push, (some ((.l 5), true)), true, 22, none⟩,
    ⟨.load 3 (.l 0), .push, (some ((.l 6), true)), true, 23, none⟩,
    ⟨.fieldAddr 56 (.v 3) 0, .push, (some ((.l 7), true)), true, 24, none⟩,
    ⟨.load 3 (.l 0), .push, (some ((.l 8), true)), true, 25, none⟩,
    ⟨.bin .geq 3 false false (.l 2) (.l 0), .push, (some ((.l 9), true)), false, 26, none⟩,
    ⟨.pick (.l 10) (.l 0) (.k (.bool false)), .push, (some ((.l 13), false)), true, 27, none⟩,
    ⟨.pick (.l 14) (.k (.bool true)) (.l 0), .push, none, true, 28, none⟩]) (.cond (.l 0) (.seq (.reg [⟨.mv (.k (.bool false)), (.var 6), none, true, 0, none⟩]) .ret) .skip)))) (.reg [⟨.mv (.v 1), .push, none, true, 0, none⟩,
    ⟨.bin .add 3 false true (.l 0) (.k (.int .i64 1)), .push, none, false, 1, none⟩,
    ⟨.mv (.l 0), (.var 1), none, true, 2, none⟩])))))) (.seq (.seq (.reg [⟨.mv (.k (.int .i64 0)), (.var 4), none, true, 0, none⟩]) (.block 2 (.loop (.seq (.seq (.reg [⟨.fieldAddr 25 (.v 2) 1, .push, none, true, 1, none⟩,
    ⟨.load 23 (.l 0), .push, none, true, 2, none⟩,
    ⟨.len 23 (.l 0), .push, none, false, 3, none⟩,
    ⟨.bin .lss 3 false false (.v 4) (.l 0), .push, none, false, 4, none⟩]) (.cond (.l 0) .skip (.exit 2))) (.seq (.block 3 (.seq (.reg [⟨.fieldAddr 25 (.v 2) 1, .push, none, true, 0, none⟩,
    ⟨.load 23 (.l 0), .push, none, true, 1, none⟩,
    ⟨.indexAddr 23 (.l 0) (.v 4), .push, none, true, 3, none⟩,
    ⟨.load 60 (.l 0), .push, none, true, 4, none⟩,
    ⟨.alloc 60, (.var 5), none, false, 5, (some 0)⟩,
    ⟨.store 60 (.v 5) (.l 0), .none, none, false, 6, none⟩]) (.seq (.dreg 0 [0, 1, 3, 7, 15, 31, 63, 127, 255, 511, 1023, 2047, 4095, 8191, 16383, 32767, 65535, 131071, 262143, 524287, 1048575, 2097151, 4194303, 8388607, 16777215, 33554431, 67108863, 134217727, 268435455, 536870911, 1073741823, 536870911, 2684354559, 8589934591, 17179869183, 34359738367, 536870911, 69256347647, 274877906943, 549755813887, 1099511627775] [⟨.fieldAddr 60 (.v 5) 0, .push, none, true, 0, none⟩,
    ⟨.load 9 (.l 0), .push, none, true, 1, none⟩,
    ⟨.len 9 (.l 0), .push, none, false, 2, none⟩,
    ⟨.bin .lss 3 false true (.l 0) (.k (.int .i64 1)), .push, none, false, 3, none⟩,
    ⟨.fieldAddr 60 (.v 5) 0, .push, (some ((.l 0), false)), true, 5, none⟩,
    ⟨.load 9 (.l 0), .push, (some ((.l 1), false)), true, 6, none⟩,
    ⟨.len 9 (.l 0), .push, (some ((.l 2), false)), false, 7, none⟩,
    ⟨.bin .gtr 3 false true (.l 0) (.k (.int .i64 8)), .push, (some ((.l 3), false)), false, 8, none⟩,
    ⟨.pick (.l 4) (.k (.bool true)) (.l 0), .push, none, true, 9, none⟩,
    ⟨.fieldAddr 60 (.v 5) 1, .push, (some ((.l 0), false)), true, 11, none⟩,
    ⟨.load 42 (.l 0), .push, (some ((.l 1), false)), true, 12, none⟩,
    ⟨.bin .eql 42 false true (.l 0) (.k (.int .u64 0)), .push, (some ((.l 2), false)), false, 13, none⟩,
    ⟨.pick (.l 3) (.k (.bool true)) (.l 0), .push, none, true, 14, none⟩,
    ⟨.fieldAddr 60 (.v 5) 2, .push, (some ((.l 0), false)), true, 16, none⟩,
    ⟨.load 42 (.l 0), .push, (some ((.l 1), false)), true, 17, none⟩,
    ⟨.bin .lss 42 false true (.l 0) (.k (.int .u64 1)), .push, (some ((.l 2), false)), false, 18, none⟩,
    ⟨.pick (.l 3) (.k (.bool true)) (.l 0), .push, none, true, 19, none⟩,
    ⟨.fieldAddr 60 (.v 5) 2, .push, (some ((.l 0), false)), true, 21, none⟩,
    ⟨.load 42 (.l 0), .push, (some ((.l 1), false)), true, 22, none⟩,
    ⟨.bin .gtr 42 false true (.l 0) (.k (.int .u64 3)), .push, (some ((.l 2), false)), false, 23, none⟩,
    ⟨.pick (.l 3) (.k (.bool true)) (.l 0), .push, none, true, 24, none⟩,
    ⟨.mv (.v 4), .push, (some ((.l 0), false)), true, 26, none⟩,
    ⟨.bin .gtr 3 false true (.l 0) (.k (.int .i64 0)), .push, (some ((.l 1), false)), false, 27, none⟩,
    ⟨.mv (.l 0), .push, (some ((.l 2), false)), true, 28, none⟩,
    ⟨.fieldAddr 25 (.v 2) 1, .push, (some ((.l 0), true)), true, 29, none⟩,
    ⟨.load 23 (.l 0), .push, (some ((.l 1), true)), true, 30, none⟩,
    ⟨.mv (.v 4), .push, (some ((.l 2), true)), true, 31, none⟩,
    ⟨.bin .sub 3 false true (.l 0) (.k (.int .i64 1)), .push, (some ((.l 3), true)), false, 32, none⟩,
    ⟨.indexAddr 23 (.l 2) (.l 0), .push, (some ((.l 4), true)), true, 33, none⟩,
    ⟨.fieldAddr 60 (.l 0) 0, .push, (some ((.l 5), true)), true, 34, none⟩,
    ⟨.load 9 (.l 0), .push, (some ((.l 6), true)), true, 35, none⟩,
    ⟨.fieldAddr 60 (.v 5) 0, .push, (some ((.l 7), true)), true, 36, none⟩,
    ⟨.load 9 (.l 0), .push, (some ((.l 8), true)), true, 37, none⟩,
    ⟨.bin .geq 9 false false (.l 2) (.l 0), .push, (some ((.l 9), true)), false, 38, none⟩,
    ⟨.pick (.l 10) (.l 0) (.k (.bool false)), .push, (some ((.l 13), false)), true, 39, none⟩,
    ⟨.pick (.l 14) (.k (.bool true)) (.l 0), .push, none, true, 40, none⟩]) (.cond (.l 0) (.seq (.reg [⟨.mv (.k (.bool false)), (.var 6), none, true, 0, none⟩]) .ret) .skip)))) (.reg [⟨.mv (.v 4), .push, none, true, 0, none⟩,
    ⟨.bin .add 3 false true (.l 0) (.k (.int .i64 1)), .push, none, false, 1, none⟩,
    ⟨.mv (.l 0), (.var 4), none, true, 2, none⟩])))))) (.seq (.reg [⟨.fieldAddr 25 (.v 2) 1, .push, none, true, 0, none⟩,
    ⟨.load 23 (.l 0), .push, none, true, 1, none⟩,
    ⟨.len 23 (.l 0), .push, none, false, 2, none⟩,
    ⟨.bin .leq 3 false true (.l 0) (.k (.int .i64 40)), .push, none, false, 3, none⟩,
    ⟨.mv (.l 0), (.var 6), none, true, 4, none⟩]) .ret)))), [.tmp (.v 6)]⟩
noncomputable def G13 (E : Env) : ZFn := ⟨105, [0, 3, 1, 4, 5, 6, 2], fun cy Y fuel =>
  (zSeq (zReg fun k => (zStep E (cy Y) ⟨.box 25 (.v 0), (.var 2), none, false, 0, (some 0)⟩) ((zDst (.var 6) (vMv (.k (.bool false)))) k))
  (zSeq (zSeq (zReg fun k => (zDst (.var 1) (vMv (.k (.int .i64 0)))) k)
  (zBlock 0 (zLoop fuel (zSeq (zSeq (zReg fun k => (zDst .push (vFieldAddr 0 (.v 2))) ((zDstW .push (wLoad 1 false (.l 0))) ((zDst .push (vLenL (.l 0))) ((zDst .push (vInt E fLss .lss 3 false false (.v 1) (.l 0))) k))))
  (zCond (.l 0) zSkip (zExit 0)))
  (zSeq (zBlock 1 (zSeq (zReg fun k => (zDst .push (vFieldAddr 0 (.v 2))) ((zDstW .push (wLoad 1 false (.l 0))) ((zDst .push (vIndexAddr 2 (.l 0) (.v 1))) ((zDstW .push (wLoad 2 true (.l 0))) ((zStep E (cy Y) ⟨.alloc 56, (.var 3), none, false, 5, (some 0)⟩) ((zStep E (cy Y) ⟨.store 56 (.v 3) (.l 0), .none, none, false, 6, none⟩) k))))))
  (zSeq (zDreg 0 fun n0 k => (fun k sp => zDst .push (vFieldAddr 0 (.v 3)) (k sp)) ((zDstWD [0, 1, 3, 7, 15, 31, 63, 127, 255, 511, 1023, 2047, 4095, 8191, 16383, 32767, 65535, 131071, 262143, 131071, 655359, 2097151, 4194303, 8388607, 131071, 16908287, 67108863, 134217727, 268435455] 1 .push (wLoad 1 false (.l 0))) ((fun k sp => zDst .push (vInt E fLss .lss 3 false true (.l 0) (.k (.int .i64 0))) (k sp)) ((zGD (.l 0) false .push (fun k sp => zDst .push (vFieldAddr 0 (.v 3)) (k sp))) ((zGD (.l 1) false .push (zDstWD [0, 1, 3, 7, 15, 31, 63, 127, 255, 511, 1023, 2047, 4095, 8191, 16383, 32767, 65535, 131071, 262143, 131071, 655359, 2097151, 4194303, 8388607, 131071, 16908287, 67108863, 134217727, 268435455] 5 .push (wLoad 1 false (.l 0)))) ((zGD (.l 2) false .push (fun k sp => zDst .push (vInt E (fGen .geq) .geq 3 false true (.l 0) (.k (.int .i64 4))) (k sp))) ((fun k sp => zDst .push (vPick (.l 3) (.k (.bool true)) (.l 0)) (k sp)) ((zGD (.l 0) false .push (fun k sp => zDst .push (vFieldAddr 1 (.v 3)) (k sp))) ((zGD (.l 1) false .push (zDstWD [0, 1, 3, 7, 15, 31, 63, 127, 255, 511, 1023, 2047, 4095, 8191, 16383, 32767, 65535, 131071, 262143, 131071, 655359, 2097151, 4194303, 8388607, 131071, 16908287, 67108863, 134217727, 268435455] 10 .push (wLoad 1 false (.l 0)))) ((zGD (.l 2) false .push (fun k sp => zDst .push (vInt E fEql .eql 42 false true (.l 0) (.k (.int .u64 0))) (k sp))) ((fun k sp => zDst .push (vPick (.l 3) (.k (.bool true)) (.l 0)) (k sp)) ((zGD (.l 0) false .push (fun k sp => zDst .push (vMv (.v 1)) (k sp))) ((zGD (.l 1) false .push (fun k sp => zDst .push (vInt E fGtr .gtr 3 false true (.l 0) (.k (.int .i64 0))) (k sp))) ((zGD (.l 2) false .push (fun k sp => zDst .push (vMv (.l 0)) (k sp))) ((zGD (.l 0) true .push (fun k sp => zDst .push (vFieldAddr 0 (.v 2)) (k sp))) ((zGD (.l 1) true .push (zDstWD [0, 1, 3, 7, 15, 31, 63, 127, 255, 511, 1023, 2047, 4095, 8191, 16383, 32767, 65535, 131071, 262143, 131071, 655359, 2097151, 4194303, 8388607, 131071, 16908287, 67108863, 134217727, 268435455] 18 .push (wLoad 1 false (.l 0)))) ((zGD (.l 2) true .push (fun k sp => zDst .push (vMv (.v 1)) (k sp))) ((zGD (.l 3) true .push (fun k sp => zDst .push (vInt E fSub .sub 3 false true (.l 0) (.k (.int .i64 1))) (k sp))) ((zGD (.l 4) true .push (fun k sp => zDst .push (vIndexAddr 2 (.l 2) (.l 0)) (k sp))) ((zGD (.l 5) true .push (fun k sp => zDst .push (vFieldAddr 0 (.l 0)) (k sp))) ((zGD (.l 6) true .push (zDstWD [0, 1, 3, 7, 15, 31, 63, 127, 255, 511, 1023, 2047, 4095, 8191, 16383, 32767, 65535, 131071, 262143, 131071, 655359, 2097151, 4194303, 8388607, 131071, 16908287, 67108863, 134217727, 268435455] 23 .push (wLoad 1 false (.l 0)))) ((zGD (.l 7) true .push (fun k sp => zDst .push (vFieldAddr 0 (.v 3)) (k sp))) ((zGD (.l 8) true .push (zDstWD [0, 1, 3, 7, 15, 31, 63, 127, 255, 511, 1023, 2047, 4095, 8191, 16383, 32767, 65535, 131071, 262143, 131071, 655359, 2097151, 4194303, 8388607, 131071, 16908287, 67108863, 134217727, 268435455] 25 .push (wLoad 1 false (.l 0)))) ((zGD (.l 9) true .push (fun k sp => zDst .push (vInt E (fGen .geq) .geq 3 false false (.l 2) (.l 0)) (k sp))) ((zGD (.l 13) false .push (fun k sp => zDst .push (vPick (.l 10) (.l 0) (.k (.bool false))) (k sp))) ((fun k sp => zDst .push (vPick (.l 14) (.k (.bool true)) (.l 0)) (k sp)) k))))))))))))))))))))))))))
  (zCond (.l 0) (zSeq (zReg fun k => (zDst (.var 6) (vMv (.k (.bool false)))) k)
  zRet) zSkip))))
  (zReg fun k => (zDst .push (vMv (.v 1))) ((zDst .push (vInt E fAdd .add 3 false true (.l 0) (.k (.int .i64 1)))) ((zDst (.var 1) (vMv (.l 0))) k))))))))
  (zSeq (zSeq (zReg fun k => (zDst (.var 4) (vMv (.k (.int .i64 0)))) k)
  (zBlock 2 (zLoop fuel (zSeq (zSeq (zReg fun k => (zDst .push (vFieldAddr 1 (.v 2))) ((zDstW .push (wLoad 1 false (.l 0))) ((zDst .push (vLenL (.l 0))) ((zDst .push (vInt E fLss .lss 3 false false (.v 4) (.l 0))) k))))
  (zCond (.l 0) zSkip (zExit 2)))
  (zSeq (zBlock 3 (zSeq (zReg fun k => (zDst .push (vFieldAddr 1 (.v 2))) ((zDstW .push (wLoad 1 false (.l 0))) ((zDst .push (vIndexAddr 3 (.l 0) (.v 4))) ((zDstW .push (wLoad 3 true (.l 0))) ((zStep E (cy Y) ⟨.alloc 60, (.var 5), none, false, 5, (some 0)⟩) ((zStep E (cy Y) ⟨.store 60 (.v 5) (.l 0), .none, none, false, 6, none⟩) k))))))
  (zSeq (zDreg 0 fun n0 k => (fun k sp => zDst .push (vFieldAddr 0 (.v 5)) (k sp)) ((zDstWD [0, 1, 3, 7, 15, 31, 63, 127, 255, 511, 1023, 2047, 4095, 8191, 16383, 32767, 65535, 131071, 262143, 524287, 1048575, 2097151, 4194303, 8388607, 16777215, 33554431, 67108863, 134217727, 268435455, 536870911, 1073741823, 536870911, 2684354559, 8589934591, 17179869183, 34359738367, 536870911, 69256347647, 274877906943, 549755813887, 1099511627775] 1 .push (wLoad 1 false (.l 0))) ((fun k sp => zDst .push (vLenS (.l 0)) (k sp)) ((fun k sp => zDst .push (vInt E fLss .lss 3 false true (.l 0) (.k (.int .i64 1))) (k sp)) ((zGD (.l 0) false .push (fun k sp => zDst .push (vFieldAddr 0 (.v 5)) (k sp))) ((zGD (.l 1) false .push (zDstWD [0, 1, 3, 7, 15, 31, 63, 127, 255, 511, 1023, 2047, 4095, 8191, 16383, 32767, 65535, 131071, 262143, 524287, 1048575, 2097151, 4194303, 8388607, 16777215, 33554431, 67108863, 134217727, 268435455, 536870911, 1073741823, 536870911, 2684354559, 8589934591, 17179869183, 34359738367, 536870911, 69256347647, 274877906943, 549755813887, 1099511627775] 6 .push (wLoad 1 false (.l 0)))) ((zGD (.l 2) false .push (fun k sp => zDst .push (vLenS (.l 0)) (k sp))) ((zGD (.l 3) false .push (fun k sp => zDst .push (vInt E fGtr .gtr 3 false true (.l 0) (.k (.int .i64 8))) (k sp))) ((fun k sp => zDst .push (vPick (.l 4) (.k (.bool true)) (.l 0)) (k sp)) ((zGD (.l 0) false .push (fun k sp => zDst .push (vFieldAddr 1 (.v 5)) (k sp))) ((zGD (.l 1) false .push (zDstWD [0, 1, 3, 7, 15, 31, 63, 127, 255, 511, 1023, 2047, 4095, 8191, 16383, 32767, 65535, 131071, 262143, 524287, 1048575, 2097151, 4194303, 8388607, 16777215, 33554431, 67108863, 134217727, 268435455, 536870911, 1073741823, 536870911, 2684354559, 8589934591, 17179869183, 34359738367, 536870911, 69256347647, 274877906943, 549755813887, 1099511627775] 12 .push (wLoad 1 false (.l 0)))) ((zGD (.l 2) false .push (fun k sp => zDst .push (vInt E fEql .eql 42 false true (.l 0) (.k (.int .u64 0))) (k sp))) ((fun k sp => zDst .push (vPick (.l 3) (.k (.bool true)) (.l 0)) (k sp)) ((zGD (.l 0) false .push (fun k sp => zDst .push (vFieldAddr 2 (.v 5)) (k sp))) ((zGD (.l 1) false .push (zDstWD [0, 1, 3, 7, 15, 31, 63, 127, 255, 511, 1023, 2047, 4095, 8191, 16383, 32767, 65535, 131071, 262143, 524287, 1048575, 2097151, 4194303, 8388607, 16777215, 33554431, 67108863, 134217727, 268435455, 536870911, 1073741823, 536870911, 2684354559, 8589934591, 17179869183, 34359738367, 536870911, 69256347647, 274877906943, 549755813887, 1099511627775] 17 .push (wLoad 1 false (.l 0)))) ((zGD (.l 2) false .push (fun k sp => zDst .push (vInt E fLss .lss 42 false true (.l 0) (.k (.int .u64 1))) (k sp))) ((fun k sp => zDst .push (vPick (.l 3) (.k (.bool true)) (.l 0)) (k sp)) ((zGD (.l 0) false .push (fun k sp => zDst .push (vFieldAddr 2 (.v 5)) (k sp))) ((zGD (.l 1) false .push (zDstWD [0, 1, 3, 7, 15, 31, 63, 127, 255, 511, 1023, 2047, 4095, 8191, 16383, 32767, 65535, 131071, 262143, 524287, 1048575, 2097151, 4194303, 8388607, 16777215, 33554431, 67108863, 134217727, 268435455, 536870911, 1073741823, 536870911, 2684354559, 8589934591, 17179869183, 34359738367, 536870911, 69256347647, 274877906943, 549755813887, 1099511627775] 22 .push (wLoad 1 false (.l 0)))) ((zGD (.l 2) false .push (fun k sp => zDst .push (vInt E fGtr .gtr 42 false true (.l 0) (.k (.int .u64 3))) (k sp))) ((fun k sp => zDst .push (vPick (.l 3) (.k (.bool true)) (.l 0)) (k sp)) ((zGD (.l 0) false .push (fun k sp => zDst .push (vMv (.v 4)) (k sp))) ((zGD (.l 1) false .push (fun k sp => zDst .push (vInt E fGtr .gtr 3 false true (.l 0) (.k (.int .i64 0))) (k sp))) ((zGD (.l 2) false .push (fun k sp => zDst .push (vMv (.l 0)) (k sp))) ((zGD (.l 0) true .push (fun k sp => zDst .push (vFieldAddr 1 (.v 2)) (k sp))) ((zGD (.l 1) true .push (zDstWD [0, 1, 3, 7, 15, 31, 63, 127, 255, 511, 1023, 2047, 4095, 8191, 16383, 32767, 65535, 131071, 262143, 524287, 1048575, 2097151, 4194303, 8388607, 16777215, 33554431, 67108863, 134217727, 268435455, 536870911, 1073741823, 536870911, 2684354559, 8589934591, 17179869183, 34359738367, 536870911, 69256347647, 274877906943, 549755813887, 1099511627775] 30 .push (wLoad 1 false (.l 0)))) ((zGD (.l 2) true .push (fun k sp => zDst .push (vMv (.v 4)) (k sp))) ((zGD (.l 3) true .push (fun k sp => zDst .push (vInt E fSub .sub 3 false true (.l 0) (.k (.int .i64 1))) (k sp))) ((zGD (.l 4) true .push (fun k sp => zDst .push (vIndexAddr 3 (.l 2) (.l 0)) (k sp))) ((zGD (.l 5) true .push (fun k sp => zDst .push (vFieldAddr 0 (.l 0)) (k sp))) ((zGD (.l 6) true .push (zDstWD [0, 1, 3, 7, 15, 31, 63, 127, 255, 511, 1023, 2047, 4095, 8191, 16383, 32767, 65535, 131071, 262143, 524287, 1048575, 2097151, 4194303, 8388607, 16777215, 33554431, 67108863, 134217727, 268435455, 536870911, 1073741823, 536870911, 2684354559, 8589934591, 17179869183, 34359738367, 536870911, 69256347647, 274877906943, 549755813887, 1099511627775] 35 .push (wLoad 1 false (.l 0)))) ((zGD (.l 7) true .push (fun k sp => zDst .push (vFieldAddr 0 (.v 5)) (k sp))) ((zGD (.l 8) true .push (zDstWD [0, 1, 3, 7, 15, 31, 63, 127, 255, 511, 1023, 2047, 4095, 8191, 16383, 32767, 65535, 131071, 262143, 524287, 1048575, 2097151, 4194303, 8388607, 16777215, 33554431, 67108863, 134217727, 268435455, 536870911, 1073741823, 536870911, 2684354559, 8589934591, 17179869183, 34359738367, 536870911, 69256347647, 274877906943, 549755813887, 1099511627775] 37 .push (wLoad 1 false (.l 0)))) ((zGD (.l 9) true .push (fun k sp => zDst .push (vInt E (fGen .geq) .geq 9 false false (.l 2) (.l 0)) (k sp))) ((zGD (.l 13) false .push (fun k sp => zDst .push (vPick (.l 10) (.l 0) (.k (.bool false))) (k sp))) ((fun k sp => zDst .push (vPick (.l 14) (.k (.bool true)) (.l 0)) (k sp)) k))))))))))))))))))))))))))))))))))))
  (zCond (.l 0) (zSeq (zReg fun k => (zDst (.var 6) (vMv (.k (.bool false)))) k)
  zRet) zSkip))))
  (zReg fun k => (zDst .push (vMv (.v 4))) ((zDst .push (vInt E fAdd .add 3 false true (.l 0) (.k (.int .i64 1)))) ((zDst (.var 4) (vMv (.l 0))) k))))))))
  (zSeq (zReg fun k => (zDst .push (vFieldAddr 1 (.v 2))) ((zDstW .push (wLoad 1 false (.l 0))) ((zDst .push (vLenL (.l 0))) ((zDst .push (vInt E (fGen .leq) .leq 3 false true (.l 0) (.k (.int .i64 40)))) ((zDst (.var 6) (vMv (.l 0))) k)))))
  zRet)))), [.tmp (.v 6)]⟩
theorem G13_ok (fn : Nat → Option Func) (pu : Nat → Bool) (pr : Nat → List AV → Option (Heap → Option (Eff × Acc))) : ZOk ⟨Try.tyT, fn, pu, pr⟩ npT F13 (G13 ⟨Try.tyT, fn, pu, pr⟩) := ⟨rfl, rfl, rfl, fun cy Y k => by kernel_rfl⟩
noncomputable def F14 : FFn := ⟨17, [0, 1, 2, 3, 4], (.seq (.reg [⟨.box 25 (.v 0), (.var 2), none, false, 0, (some 0)⟩,
    ⟨.box 25 (.v 1), (.var 3), none, false, 1, (some 1)⟩,
    ⟨.mv (.k (.bool false)), (.var 4), none, true, 2, none⟩]) (.seq (.reg [⟨.fieldAddr 25 (.v 2) 0, .push, none, true, 0, none⟩,
    ⟨.load 22 (.l 0), .push, none, true, 1, none⟩,
    ⟨.fieldAddr 25 (.v 3) 0, .push, none, true, 2, none⟩,
    ⟨.load 22 (.l 0), .push, none, true, 3, none⟩,
    ⟨.call 49 [(.l 2), (.l 0)], .push, none, false, 4, (some 0)⟩,
    ⟨.fieldAddr 25 (.v 2) 1, .push, (some ((.l 0), true)), true, 6, none⟩,
    ⟨.load 23 (.l 0), .push, (some ((.l 1), true)), true, 7, none⟩,
    ⟨.fieldAddr 25 (.v 3) 1, .push, (some ((.l 2), true)), true, 8, none⟩,
    ⟨.load 23 (.l 0), .push, (some ((.l 3), true)), true, 9, none⟩,
    ⟨.call 50 [(.l 2), (.l 0)], .push, (some ((.l 4), true)), false, 10, (some 1)⟩,
    ⟨.pick (.l 5) (.l 0) (.k (.bool false)), .push, none, true, 11, none⟩,
    ⟨.mv (.l 0), (.var 4), none, true, 12, none⟩]) .ret)), [.tmp (.v 4)]⟩
noncomputable def G14 (E : Env) : ZFn := ⟨17, [0, 1, 2, 3, 4], fun cy Y fuel =>
  (zSeq (zReg fun k => (zStep E (cy Y) ⟨.box 25 (.v 0), (.var 2), none, false, 0, (some 0)⟩) ((zStep E (cy Y) ⟨.box 25 (.v 1), (.var 3), none, false, 1, (some 1)⟩) ((zDst (.var 4) (vMv (.k (.bool false)))) k)))
  (zSeq (zReg fun k => (zDst .push (vFieldAddr 0 (.v 2))) ((zDstW .push (wLoad 1 false (.l 0))) ((zDst .push (vFieldAddr 0 (.v 3))) ((zDstW .push (wLoad 1 false (.l 0))) ((zCall (cy Y) 49 [(.l 2), (.l 0)] .push) ((zG (.l 0) true .push (zDst .push (vFieldAddr 1 (.v 2)))) ((zG (.l 1) true .push (zDstW .push (wLoad 1 false (.l 0)))) ((zG (.l 2) true .push (zDst .push (vFieldAddr 1 (.v 3)))) ((zG (.l 3) true .push (zDstW .push (wLoad 1 false (.l 0)))) ((zG (.l 4) true .push (zCall (cy Y) 50 [(.l 2), (.l 0)] .push)) ((zDst .push (vPick (.l 5) (.l 0) (.k (.bool false)))) ((zDst (.var 4) (vMv (.l 0))) k))))))))))))
  zRet)), [.tmp (.v 4)]⟩
theorem G14_ok (fn : Nat → Option Func) (pu : Nat → Bool) (pr : Nat → List AV → Option (Heap → Option (Eff × Acc))) : ZOk ⟨Try.tyT, fn, pu, pr⟩ npT F14 (G14 ⟨Try.tyT, fn, pu, pr⟩) := ⟨rfl, rfl, rfl, fun cy Y k => by kernel_rfl⟩
noncomputable def F15 : FFn := ⟨59, [0, 1, 2, 3, 5, 6, 4], (.seq (.reg [⟨.box 25 (.v 0), (.var 2), none, false, 0, (some 0)⟩,
    ⟨.box 25 (.v 1), (.var 3), none, false, 1, (some 1)⟩,
    ⟨.mv (.k (.bool false)), (.var 6), none, true, 2, none⟩]) (.seq (.seq (.reg [⟨.fieldAddr 25 (.v 2) 0, .push, none, true, 0, none⟩,
    ⟨.load 22 (.l 0), .push, none, true, 1, none⟩,
    ⟨.len 22 (.l 0), .push, none, false, 2, none⟩,
    ⟨.fieldAddr 25 (.v 3) 0, .push, none, true, 3, none⟩,
    ⟨.load 22 (.l 0), .push, none, true, 4, none⟩,
    ⟨.len 22 (.l 0), .push, none, false, 5, none⟩,
    ⟨.bin .neq 3 false false (.l 3) (.l 0), .push, none, false, 6, none⟩,
    ⟨.fieldAddr 25 (.v 2) 1, .push, (some ((.l 0), false)), true, 8, none⟩,
    ⟨.load 23 (.l 0), .push, (some ((.l 1), false)), true, 9, none⟩,
    ⟨.len 23 (.l 0), .push, (some ((.l 2), false)), false, 10, none⟩,
    ⟨.fieldAddr 25 (.v 3) 1, .push, (some ((.l 3), false)), true, 11, none⟩,
    ⟨.load 23 (.l 0), .push, (some ((.l 4), false)), true, 12, none⟩,
    ⟨.len 23 (.l 0), .push, (some ((.l 5), false)), false, 13, none⟩,
    ⟨.bin .neq 3 false false (.l 3) (.l 0), .push, (some ((.l 6), false)), false, 14, none⟩,
    ⟨.pick (.l 7) (.k (.bool true)) (.l 0), .push, none, true, 15, none⟩]) (.cond (.l 0) (.seq (.reg [⟨.mv (.k (.bool false)), (.var 6), none, true, 0, none⟩]) .ret) .skip)) (.seq (.seq (.reg [⟨.mv (.k (.int .i64 0)), (.var 4), none, true, 0, none⟩]) (.block 0 (.loop (.seq (.seq (.reg [⟨.fieldAddr 25 (.v 2) 0, .push, none, true, 1, none⟩,
    ⟨.load 22 (.l 0), .push, none, true, 2, none⟩,
    ⟨.len 22 (.l 0), .push, none, false, 3, none⟩,
    ⟨.bin .lss 3 false false (.v 4) (.l 0), .push, none, false, 4, none⟩]) (.cond (.l 0) .skip (.exit 0))) (.seq (.block 1 (.seq (.dreg 0 [0, 1, 0, 7, 15, 0, 32, 0, 224, 480, 1023] [⟨.fieldAddr 25 (.v 2) 0, .push, none, true, 0, none⟩,
    ⟨.load 22 (.l 0), .push, none, true, 1, none⟩,
    ⟨.indexAddr 22 (.l 0) (.v 4), .push, none, true, 3, none⟩,
    ⟨.load 56 (.l 0), .push, none, true, 4, none⟩,
    ⟨.fieldAddr 25 (.v 3) 0, .push, none, true, 5, none⟩,
    ⟨.load 22 (.l 0), .push, none, true, 6, none⟩,
    ⟨.indexAddr 22 (.l 0) (.v 4), .push, none, true, 8, none⟩,
    ⟨.load 56 (.l 0), .push, none, true, 9, none⟩,
    ⟨.bin .neq 56 false false (.l 4) (.l 0), .push, none, false, 10, none⟩]) (.cond (.l 0) (.seq (.reg [⟨.mv (.k (.bool false)), (.var 6), none, true, 0, none⟩]) .ret) .skip))) (.reg [⟨.mv (.v 4), .push, none, true, 0, none⟩,
    ⟨.bin .add 3 false true (.l 0) (.k (.int .i64 1)), .push, none, false, 1, none⟩,
    ⟨.mv (.l 0), (.var 4), none, true, 2, none⟩])))))) (.seq (.seq (.reg [⟨.mv (.k (.int .i64 0)), (.var 5), none, true, 0, none⟩]) (.block 2 (.loop (.seq (.seq (.reg [⟨.fieldAddr 25 (.v 2) 1, .push, none, true, 1, none⟩,
    ⟨.load 23 (.l 0), .push, none, true, 2, none⟩,
    ⟨.len 23 (.l 0), .push, none, false, 3, none⟩,
    ⟨.bin .lss 3 false false (.v 5) (.l 0), .push, none, false, 4, none⟩]) (.cond (.l 0) .skip (.exit 2))) (.seq (.block 3 (.seq (.dreg 0 [0, 1, 0, 7, 15, 0, 32, 0, 224, 480, 1023] [⟨.fieldAddr 25 (.v 2) 1, .push, none, true, 0, none⟩,
    ⟨.load 23 (.l 0), .push, none, true, 1, none⟩,
    ⟨.indexAddr 23 (.l 0) (.v 5), .push, none, true, 3, none⟩,
    ⟨.load 60 (.l 0), .push, none, true, 4, none⟩,
    ⟨.fieldAddr 25 (.v 3) 1, .push, none, true, 5, none⟩,
    ⟨.load 23 (.l 0), .push, none, true, 6, none⟩,
    ⟨.indexAddr 23 (.l 0) (.v 5), .push, none, true, 8, none⟩,
    ⟨.load 60 (.l 0), .push, none, true, 9, none⟩,
    ⟨.bin .neq 60 false false (.l 4) (.l 0), .push, none, false, 10, none⟩]) (.cond (.l 0) (.seq (.reg [⟨.mv (.k (.bool false)), (.var 6), none, true, 0, none⟩]) .ret) .skip))) (.reg [⟨.mv (.v 5), .push, none, true, 0, none⟩,
    ⟨.bin .add 3 false true (.l 0) (.k (.int .i64 1)), .push, none, false, 1, none⟩,
    ⟨.mv (.l 0), (.var 5), none, true, 2, none⟩])))))) (.seq (.reg [⟨.mv (.k (.bool true)), (.var 6), none, true, 0, none⟩]) .ret))))), [.tmp (.v 6)]⟩
noncomputable def G15 (E : Env) : ZFn := ⟨59, [0, 1, 2, 3, 5, 6, 4], fun cy Y fuel =>
  (zSeq (zReg fun k => (zStep E (cy Y) ⟨.box 25 (.v 0), (.var 2), none, false, 0, (some 0)⟩) ((zStep E (cy Y) ⟨.box 25 (.v 1), (.var 3), none, false, 1, (some 1)⟩) ((zDst (.var 6) (vMv (.k (.bool false)))) k)))
  (zSeq (zSeq (zReg fun k => (zDst .push (vFieldAddr 0 (.v 2))) ((zDstW .push (wLoad 1 false (.l 0))) ((zDst .push (vLenL (.l 0))) ((zDst .push (vFieldAddr 0 (.v 3))) ((zDstW .push (wLoad 1 false (.l 0))) ((zDst .push (vLenL (.l 0))) ((zDst .push (vInt E fNeq .neq 3 false false (.l 3) (.l 0))) ((zG (.l 0) false .push (zDst .push (vFieldAddr 1 (.v 2)))) ((zG (.l 1) false .push (zDstW .push (wLoad 1 false (.l 0)))) ((zG (.l 2) false .push (zDst .push (vLenL (.l 0)))) ((zG (.l 3) false .push (zDst .push (vFieldAddr 1 (.v 3)))) ((zG (.l 4) false .push (zDstW .push (wLoad 1 false (.l 0)))) ((zG (.l 5) false .push (zDst .push (vLenL (.l 0)))) ((zG (.l 6) false .push (zDst .push (vInt E fNeq .neq 3 false false (.l 3) (.l 0)))) ((zDst .push (vPick (.l 7) (.k (.bool true)) (.l 0))) k)))))))))))))))
  (zCond (.l 0) (zSeq (zReg fun k => (zDst (.var 6) (vMv (.k (.bool false)))) k)
  zRet) zSkip))
  (zSeq (zSeq (zReg fun k => (zDst (.var 4) (vMv (.k (.int .i64 0)))) k)
  (zBlock 0 (zLoop fuel (zSeq (zSeq (zReg fun k => (zDst .push (vFieldAddr 0 (.v 2))) ((zDstW .push (wLoad 1 false (.l 0))) ((zDst .push (vLenL (.l 0))) ((zDst .push (vInt E fLss .lss 3 false false (.v 4) (.l 0))) k))))
  (zCond (.l 0) zSkip (zExit 0)))
  (zSeq (zBlock 1 (zSeq (zDreg 0 fun n0 k => (fun k sp => zDst .push (vFieldAddr 0 (.v 2)) (k sp)) ((zDstWD [0, 1, 0, 7, 15, 0, 32, 0, 224, 480, 1023] 1 .push (wLoad 1 false (.l 0))) ((fun k sp => zDst .push (vIndexAddr 2 (.l 0) (.v 4)) (k sp)) ((zDstWD [0, 1, 0, 7, 15, 0, 32, 0, 224, 480, 1023] 4 .push (wLoad 2 true (.l 0))) ((fun k sp => zDst .push (vFieldAddr 0 (.v 3)) (k sp)) ((zDstWD [0, 1, 0, 7, 15, 0, 32, 0, 224, 480, 1023] 6 .push (wLoad 1 false (.l 0))) ((fun k sp => zDst .push (vIndexAddr 2 (.l 0) (.v 4)) (k sp)) ((zDstWD [0, 1, 0, 7, 15, 0, 32, 0, 224, 480, 1023] 9 .push (wLoad 2 true (.l 0))) ((fun k sp => zDst .push (vInt E fNeq .neq 56 false false (.l 4) (.l 0)) (k sp)) k)))))))))
  (zCond (.l 0) (zSeq (zReg fun k => (zDst (.var 6) (vMv (.k (.bool false)))) k)
  zRet) zSkip)))
  (zReg fun k => (zDst .push (vMv (.v 4))) ((zDst .push (vInt E fAdd .add 3 false true (.l 0) (.k (.int .i64 1)))) ((zDst (.var 4) (vMv (.l 0))) k))))))))
  (zSeq (zSeq (zReg fun k => (zDst (.var 5) (vMv (.k (.int .i64 0)))) k)
  (zBlock 2 (zLoop fuel (zSeq (zSeq (zReg fun k => (zDst .push (vFieldAddr 1 (.v 2))) ((zDstW .push (wLoad 1 false (.l 0))) ((zDst .push (vLenL (.l 0))) ((zDst .push (vInt E fLss .lss 3 false false (.v 5) (.l 0))) k))))
  (zCond (.l 0) zSkip (zExit 2)))
  (zSeq (zBlock 3 (zSeq (zDreg 0 fun n0 k => (fun k sp => zDst .push (vFieldAddr 1 (.v 2)) (k sp)) ((zDstWD [0, 1, 0, 7, 15, 0, 32, 0, 224, 480, 1023] 1 .push (wLoad 1 false (.l 0))) ((fun k sp => zDst .push (vIndexAddr 3 (.l 0) (.v 5)) (k sp)) ((zDstWD [0, 1, 0, 7, 15, 0, 32, 0, 224, 480, 1023] 4 .push (wLoad 3 true (.l 0))) ((fun k sp => zDst .push (vFieldAddr 1 (.v 3)) (k sp)) ((zDstWD [0, 1, 0, 7, 15, 0, 32, 0, 224, 480, 1023] 6 .push (wLoad 1 false (.l 0))) ((fun k sp => zDst .push (vIndexAddr 3 (.l 0) (.v 5)) (k sp)) ((zDstWD [0, 1, 0, 7, 15, 0, 32, 0, 224, 480, 1023] 9 .push (wLoad 3 true (.l 0))) ((fun k sp => zDst .push (vInt E fNeq .neq 60 false false (.l 4) (.l 0)) (k sp)) k)))))))))
  (zCond (.l 0) (zSeq (zReg fun k => (zDst (.var 6) (vMv (.k (.bool false)))) k)
  zRet) zSkip)))
  (zReg fun k => (zDst .push (vMv (.v 5))) ((zDst .push (vInt E fAdd .add 3 false true (.l 0) (.k (.int .i64 1)))) ((zDst (.var 5) (vMv (.l 0))) k))))))))
  (zSeq (zReg fun k => (zDst (.var 6) (vMv (.k (.bool true)))) k)
  zRet))))), [.tmp (.v 6)]⟩
theorem G15_ok (fn : Nat → Option Func) (pu : Nat → Bool) (pr : Nat → List AV → Option (Heap → Option (Eff × Acc))) : ZOk ⟨Try.tyT, fn, pu, pr⟩ npT F15 (G15 ⟨Try.tyT, fn, pu, pr⟩) := ⟨rfl, rfl, rfl, fun cy Y k => by kernel_rfl⟩
noncomputable def F16 : FFn := ⟨20, [0, 8, 7, 3, 4, 2], (.seq (.reg [⟨.alloc 25, (.var 5), none, false, 0, (some 0)⟩]) (.seq (.reg [⟨.alloc 25, (.var 3), none, false, 0, (some 0)⟩]) (.seq (.seq (.reg [⟨.most true [(.v 0), (.k (.int .i64 1))], .push, none, false, 1, none⟩,
    ⟨.most false [(.l 0), (.k (.int .i64 4))], (.var 2), none, false, 2, none⟩,
    ⟨.mv (.k (.int .i64 0)), (.var 1), none, true, 3, none⟩]) (.block 0 (.loop (.seq (.reg [⟨.bin .lss 3 false false (.v 1) (.v 2), .push, none, false, 0, none⟩]) (.seq (.cond (.l 0) .skip (.exit 0)) (.seq (.block 1 (.seq (.reg [⟨.mv (.v 1), (.var 4), none, true, 1, none⟩]) (.reg [⟨.fieldAddr 25 (.v 3) 0, .push, none, true, 0, none⟩,
    ⟨.load 22 (.l 0), .push, none, true, 1, none⟩,
    ⟨.build 56 [(0, (.v 4)), (1, (.k (.int .u64 1)))], .push, none, false, 3, none⟩,
    ⟨.buildSlice 22 1 [(0, (.l 0))], .push, none, false, 4, (some 0)⟩,
    ⟨.append 22 22 (.l 2) (.l 0), .push, none, false, 5, (some 1)⟩,
    ⟨.fieldAddr 25 (.v 3) 0, .push, none, true, 6, none⟩,
    ⟨.store 22 (.l 0) (.l 1), .none, none, false, 7, none⟩]))) (.reg [⟨.bin .add 3 false true (.v 1) (.k (.int .i64 1)), .push, none, false, 0, none⟩,
    ⟨.mv (.l 0), (.var 1), none, true, 1, none⟩]))))))) (.seq (.reg [⟨.load 25 (.v 3), .push, none, true, 0, none⟩,
    ⟨.store 25 (.v 5) (.l 0), .none, none, false, 1, none⟩]) .ret)))), [.cell (.v 5) 25]⟩
noncomputable def G16 (E : Env) : ZFn := ⟨20, [0, 8, 7, 3, 4, 2], fun cy Y fuel =>
  (zSeq (zReg fun k => (zStep E (cy Y) ⟨.alloc 25, (.var 5), none, false, 0, (some 0)⟩) k)
  (zSeq (zReg fun k => (zStep E (cy Y) ⟨.alloc 25, (.var 3), none, false, 0, (some 0)⟩) k)
  (zSeq (zSeq (zReg fun k => (zStep E (cy Y) ⟨.most true [(.v 0), (.k (.int .i64 1))], .push, none, false, 1, none⟩) ((zStep E (cy Y) ⟨.most false [(.l 0), (.k (.int .i64 4))], (.var 2), none, false, 2, none⟩) ((zDst (.var 1) (vMv (.k (.int .i64 0)))) k)))
  (zBlock 0 (zLoop fuel (zSeq (zReg fun k => (zDst .push (vInt E fLss .lss 3 false false (.v 1) (.v 2))) k)
  (zSeq (zCond (.l 0) zSkip (zExit 0))
  (zSeq (zBlock 1 (zSeq (zReg fun k => (zDst (.var 4) (vMv (.v 1))) k)
  (zReg fun k => (zDst .push (vFieldAddr 0 (.v 3))) ((zDstW .push (wLoad 1 false (.l 0))) ((zStep E (cy Y) ⟨.build 56 [(0, (.v 4)), (1, (.k (.int .u64 1)))], .push, none, false, 3, none⟩) ((zStep E (cy Y) ⟨.buildSlice 22 1 [(0, (.l 0))], .push, none, false, 4, (some 0)⟩) ((zStep E (cy Y) ⟨.append 22 22 (.l 2) (.l 0), .push, none, false, 5, (some 1)⟩) ((zDst .push (vFieldAddr 0 (.v 3))) ((zStep E (cy Y) ⟨.store 22 (.l 0) (.l 1), .none, none, false, 7, none⟩) k)))))))))
  (zReg fun k => (zDst .push (vInt E fAdd .add 3 false true (.v 1) (.k (.int .i64 1)))) ((zDst (.var 1) (vMv (.l 0))) k))))))))
  (zSeq (zReg fun k => (zDstW .push (wLoad 2 true (.v 3))) ((zStep E (cy Y) ⟨.store 25 (.v 5) (.l 0), .none, none, false, 1, none⟩) k))
  zRet)))), [.cell (.v 5) 25]⟩
theorem G16_ok (fn : Nat → Option Func) (pu : Nat → Bool) (pr : Nat → List AV → Option (Heap → Option (Eff × Acc))) : ZOk ⟨Try.tyT, fn, pu, pr⟩ npT F16 (G16 ⟨Try.tyT, fn, pu, pr⟩) := ⟨rfl, rfl, rfl, fun cy Y k => by kernel_rfl⟩
noncomputable def F17 : FFn := ⟨21, [4, 0, 3, 2], (.seq (.reg [⟨.alloc 25, (.var 3), none, false, 0, (some 0)⟩]) (.seq (.reg [⟨.build 25 [], .push, none, false, 0, none⟩,
    ⟨.alloc 25, (.var 2), none, false, 1, (some 0)⟩,
    ⟨.store 25 (.v 2) (.l 0), .none, none, false, 2, none⟩]) (.seq (.seq (.reg [⟨.mv (.k (.int .i64 0)), (.var 0), none, true, 0, none⟩]) (.block 0 (.loop (.seq (.seq (.reg [⟨.most false [(.v 1), (.k (.int .i64 4))], .push, none, false, 2, none⟩,
    ⟨.most true [(.k (.int .i64 1)), (.l 0)], .push, none, false, 3, none⟩,
    ⟨.bin .lss 3 false false (.v 0) (.l 0), .push, none, false, 4, none⟩]) (.cond (.l 0) .skip (.exit 0))) (.seq (.block 1 (.reg [⟨.fieldAddr 25 (.v 2) 0, .push, none, true, 0, none⟩,
    ⟨.load 22 (.l 0), .push, none, true, 1, none⟩,
    ⟨.build 56 [(0, (.v 0)), (1, (.k (.int .u64 1)))], .push, none, false, 3, none⟩,
    ⟨.buildSlice 22 1 [(0, (.l 0))], .push, none, false, 4, (some 0)⟩,
    ⟨.append 22 22 (.l 2) (.l 0), .push, none, false, 5, (some 1)⟩,
    ⟨.fieldAddr 25 (.v 2) 0, .push, none, true, 6, none⟩,
    ⟨.store 22 (.l 0) (.l 1), .none, none, false, 7, none⟩])) (.reg [⟨.mv (.v 0), .push, none, true, 0, none⟩,
    ⟨.bin .add 3 false true (.l 0) (.k (.int .i64 1)), .push, none, false, 1, none⟩,
    ⟨.mv (.l 0), (.var 0), none, true, 2, none⟩])))))) (.seq (.reg [⟨.load 25 (.v 2), .push, none, true, 0, none⟩,
    ⟨.store 25 (.v 3) (.l 0), .none, none, false, 1, none⟩]) .ret)))), [.cell (.v 3) 25]⟩
noncomputable def G17 (E : Env) : ZFn := ⟨21, [4, 0, 3, 2], fun cy Y fuel =>
  (zSeq (zReg fun k => (zStep E (cy Y) ⟨.alloc 25, (.var 3), none, false, 0, (some 0)⟩) k)
  (zSeq (zReg fun k => (zStep E (cy Y) ⟨.build 25 [], .push, none, false, 0, none⟩) ((zStep E (cy Y) ⟨.alloc 25, (.var 2), none, false, 1, (some 0)⟩) ((zStep E (cy Y) ⟨.store 25 (.v 2) (.l 0), .none, none, false, 2, none⟩) k)))
  (zSeq (zSeq (zReg fun k => (zDst (.var 0) (vMv (.k (.int .i64 0)))) k)
  (zBlock 0 (zLoop fuel (zSeq (zSeq (zReg fun k => (zStep E (cy Y) ⟨.most false [(.v 1), (.k (.int .i64 4))], .push, none, false, 2, none⟩) ((zStep E (cy Y) ⟨.most true [(.k (.int .i64 1)), (.l 0)], .push, none, false, 3, none⟩) ((zDst .push (vInt E fLss .lss 3 false false (.v 0) (.l 0))) k)))
  (zCond (.l 0) zSkip (zExit 0)))
  (zSeq (zBlock 1 (zReg fun k => (zDst .push (vFieldAddr 0 (.v 2))) ((zDstW .push (wLoad 1 false (.l 0))) ((zStep E (cy Y) ⟨.build 56 [(0, (.v 0)), (1, (.k (.int .u64 1)))], .push, none, false, 3, none⟩) ((zStep E (cy Y) ⟨.buildSlice 22 1 [(0, (.l 0))], .push, none, false, 4, (some 0)⟩) ((zStep E (cy Y) ⟨.append 22 22 (.l 2) (.l 0), .push, none, false, 5, (some 1)⟩) ((zDst .push (vFieldAddr 0 (.v 2))) ((zStep E (cy Y) ⟨.store 22 (.l 0) (.l 1), .none, none, false, 7, none⟩) k))))))))
  (zReg fun k => (zDst .push (vMv (.v 0))) ((zDst .push (vInt E fAdd .add 3 false true (.l 0) (.k (.int .i64 1)))) ((zDst (.var 0) (vMv (.l 0))) k))))))))
  (zSeq (zReg fun k => (zDstW .push (wLoad 2 true (.v 2))) ((zStep E (cy Y) ⟨.store 25 (.v 3) (.l 0), .none, none, false, 1, none⟩) k))
  zRet)))), [.cell (.v 3) 25]⟩
theorem G17_ok (fn : Nat → Option Func) (pu : Nat → Bool) (pr : Nat → List AV → Option (Heap → Option (Eff × Acc))) : ZOk ⟨Try.tyT, fn, pu, pr⟩ npT F17 (G17 ⟨Try.tyT, fn, pu, pr⟩) := ⟨rfl, rfl, rfl, fun cy Y k => by kernel_rfl⟩
noncomputable def F18 : FFn := ⟨35, [0, 3, 1, 4, 2], (.seq (.reg [⟨.box 25 (.v 0), (.var 2), none, false, 0, (some 0)⟩,
    ⟨.mv (.k (.bool false)), (.var 4), none, true, 1, none⟩]) (.seq (.seq (.reg [⟨.mv (.k (.int .i64 0)), (.var 1), none, true, 0, none⟩]) (.block 0 (.loop (.seq (.seq (.reg [⟨.fieldAddr 25 (.v 2) 0, .push, none, true, 1, none⟩,
    ⟨.load 22 (.l 0), .push, none, true, 2, none⟩,
    ⟨.len 22 (.l 0), .push, none, false, 3, none⟩,
    ⟨.bin .lss 3 false false (.v 1) (.l 0), .push, none, false, 4, none⟩]) (.cond (.l 0) .skip (.exit 0))) (.seq (.block 1 (.seq (.reg [⟨.fieldAddr 25 (.v 2) 0, .push, none, true, 0, none⟩,
    ⟨.load 22 (.l 0), .push, none, true, 1, none⟩,
    ⟨.indexAddr 22 (.l 0) (.v 1), .push, none, true, 3, none⟩,
    ⟨.fieldAddr 56 (.l 0) 1, .push, none, true, 4, none⟩,
    ⟨.load 42 (.l 0), .push, none, true, 5, none⟩,
    ⟨.bin .add 42 false true (.l 0) (.k (.int .u64 1)), .push, none, false, 6, none⟩,
    ⟨.bin .eql 42 false true (.l 0) (.k (.int .u64 0)), .push, none, false, 7, none⟩]) (.cond (.l 0) (.seq (.reg [⟨.mv (.k (.bool true)), (.var 4), none, true, 0, none⟩]) .ret) .skip))) (.reg [⟨.mv (.v 1), .push, none, true, 0, none⟩,
    ⟨.bin .add 3 false true (.l 0) (.k (.int .i64 1)), .push, none, false, 1, none⟩,
    ⟨.mv (.l 0), (.var 1), none, true, 2, none⟩])))))) (.seq (.seq (.reg [⟨.mv (.k (.int .i64 0)), (.var 3), none, true, 0, none⟩]) (.block 2 (.loop (.seq (.seq (.reg [⟨.fieldAddr 25 (.v 2) 1, .push, none, true, 1, none⟩,
    ⟨.load 23 (.l 0), .push, none, true, 2, none⟩,
    ⟨.len 23 (.l 0), .push, none, false, 3, none⟩,
    ⟨.bin .lss 3 false false (.v 3) (.l 0), .push, none, false, 4, none⟩]) (.cond (.l 0) .skip (.exit 2))) (.seq (.block 3 (.seq (.reg [⟨.fieldAddr 25 (.v 2) 1, .push, none, true, 0, none⟩,
    ⟨.load 23 (.l 0), .push, none, true, 1, none⟩,
    ⟨.indexAddr 23 (.l 0) (.v 3), .push, none, true, 3, none⟩,
    ⟨.fieldAddr 60 (.l 0) 1, .push, none, true, 4, none⟩,
    ⟨.load 42 (.l 0), .push, none, true, 5, none⟩,
    ⟨.bin .add 42 false true (.l 0) (.k (.int .u64 1)), .push, none, false, 6, none⟩,
    ⟨.bin .eql 42 false true (.l 0) (.k (.int .u64 0)), .push, none, false, 7, none⟩]) (.cond (.l 0) (.seq (.reg [⟨.mv (.k (.bool true)), (.var 4), none, true, 0, none⟩]) .ret) .skip))) (.reg [⟨.mv (.v 3), .push, none, true, 0, none⟩,
    ⟨.bin .add 3 false true (.l 0) (.k (.int .i64 1)), .push, none, false, 1, none⟩,
    ⟨.mv (.l 0), (.var 3), none, true, 2, none⟩])))))) (.seq (.reg [⟨.mv (.k (.bool false)), (.var 4), none, true, 0, none⟩]) .ret)))), [.tmp (.v 4)]⟩
noncomputable def G18 (E : Env) : ZFn := ⟨35, [0, 3, 1, 4, 2], fun cy Y fuel =>
  (zSeq (zReg fun k => (zStep E (cy Y) ⟨.box 25 (.v 0), (.var 2), none, false, 0, (some 0)⟩) ((zDst (.var 4) (vMv (.k (.bool false)))) k))
  (zSeq (zSeq (zReg fun k => (zDst (.var 1) (vMv (.k (.int .i64 0)))) k)
  (zBlock 0 (zLoop fuel (zSeq (zSeq (zReg fun k => (zDst .push (vFieldAddr 0 (.v 2))) ((zDstW .push (wLoad 1 false (.l 0))) ((zDst .push (vLenL (.l 0))) ((zDst .push (vInt E fLss .lss 3 false false (.v 1) (.l 0))) k))))
  (zCond (.l 0) zSkip (zExit 0)))
  (zSeq (zBlock 1 (zSeq (zReg fun k => (zDst .push (vFieldAddr 0 (.v 2))) ((zDstW .push (wLoad 1 false (.l 0))) ((zDst .push (vIndexAddr 2 (.l 0) (.v 1))) ((zDst .push (vFieldAddr 1 (.l 0))) ((zDstW .push (wLoad 1 false (.l 0))) ((zDst .push (vInt E fAdd .add 42 false true (.l 0) (.k (.int .u64 1)))) ((zDst .push (vInt E fEql .eql 42 false true (.l 0) (.k (.int .u64 0)))) k)))))))
  (zCond (.l 0) (zSeq (zReg fun k => (zDst (.var 4) (vMv (.k (.bool true)))) k)
  zRet) zSkip)))
  (zReg fun k => (zDst .push (vMv (.v 1))) ((zDst .push (vInt E fAdd .add 3 false true (.l 0) (.k (.int .i64 1)))) ((zDst (.var 1) (vMv (.l 0))) k))))))))
  (zSeq (zSeq (zReg fun k => (zDst (.var 3) (vMv (.k (.int .i64 0)))) k)
  (zBlock 2 (zLoop fuel (zSeq (zSeq (zReg fun k => (zDst .push (vFieldAddr 1 (.v 2))) ((zDstW .push (wLoad 1 false (.l 0))) ((zDst .push (vLenL (.l 0))) ((zDst .push (vInt E fLss .lss 3 false false (.v 3) (.l 0))) k))))
  (zCond (.l 0) zSkip (zExit 2)))
  (zSeq (zBlock 3 (zSeq (zReg fun k => (zDst .push (vFieldAddr 1 (.v 2))) ((zDstW .push (wLoad 1 false (.l 0))) ((zDst .push (vIndexAddr 3 (.l 0) (.v 3))) ((zDst .push (vFieldAddr 1 (.l 0))) ((zDstW .push (wLoad 1 false (.l 0))) ((zDst .push (vInt E fAdd .add 42 false true (.l 0) (.k (.int .u64 1)))) ((zDst .push (vInt E fEql .eql 42 false true (.l 0) (.k (.int .u64 0)))) k)))))))
  (zCond (.l 0) (zSeq (zReg fun k => (zDst (.var 4) (vMv (.k (.bool true)))) k)
  zRet) zSkip)))
  (zReg fun k => (zDst .push (vMv (.v 3))) ((zDst .push (vInt E fAdd .add 3 false true (.l 0) (.k (.int .i64 1)))) ((zDst (.var 3) (vMv (.l 0))) k))))))))
  (zSeq (zReg fun k => (zDst (.var 4) (vMv (.k (.bool false)))) k)
  zRet)))), [.tmp (.v 4)]⟩
theorem G18_ok (fn : Nat → Option Func) (pu : Nat → Bool) (pr : Nat → List AV → Option (Heap → Option (Eff × Acc))) : ZOk ⟨Try.tyT, fn, pu, pr⟩ npT F18 (G18 ⟨Try.tyT, fn, pu, pr⟩) := ⟨rfl, rfl, rfl, fun cy Y k => by kernel_rfl⟩
noncomputable def F19 : FFn := ⟨22, [0, 1, 2, 3, 5, 4], (.seq (.reg [⟨.box 25 (.v 0), (.var 2), none, false, 0, (some 0)⟩,
    ⟨.box 25 (.v 1), (.var 3), none, false, 1, (some 1)⟩,
    ⟨.alloc 25, (.var 5), none, false, 2, (some 2)⟩]) (.seq (.reg [⟨.fieldAddr 25 (.v 2) 1, .push, none, true, 0, none⟩,
    ⟨.load 23 (.l 0), .push, none, true, 1, none⟩,
    ⟨.fieldAddr 25 (.v 3) 1, .push, none, true, 2, none⟩,
    ⟨.load 23 (.l 0), .push, none, true, 3, none⟩,
    ⟨.call 51 [(.l 2), (.l 0), (.k (.clo 52 [])), (.k (.clo 53 []))], .push, none, false, 4, (some 0)⟩,
    ⟨.mv (.l 0), (.var 4), none, true, 5, none⟩]) (.seq (.dreg 1 [0, 1, 0, 4, 15, 0, 0, 64, 192, 480, 1023, 2047] [⟨.fieldAddr 25 (.v 2) 0, .push, none, true, 0, none⟩,
    ⟨.load 22 (.l 0), .push, none, true, 1, none⟩,
    ⟨.fieldAddr 25 (.v 3) 0, .push, none, true, 2, none⟩,
    ⟨.load 22 (.l 0), .push, none, true, 3, none⟩,
    ⟨.call 56 [(.l 2), (.l 0), (.k (.clo 47 [])), (.k (.clo 57 []))], .push, none, false, 4, (some 0)⟩,
    ⟨.len 23 (.v 4), .push, none, false, 7, none⟩,
    ⟨.most false [(.l 0), (.k (.int .i64 40))], .push, none, false, 8, none⟩,
    ⟨.slice 23 (.v 4) none (some (.l 0)) none, .push, none, false, 9, none⟩,
    ⟨.build 25 [(0, (.l 3)), (1, (.l 0))], .push, none, false, 10, none⟩,
    ⟨.store 25 (.v 5) (.l 0), .none, none, false, 11, none⟩]) .ret))), [.cell (.v 5) 25]⟩
noncomputable def G19 (E : Env) : ZFn := ⟨22, [0, 1, 2, 3, 5, 4], fun cy Y fuel =>
  (zSeq (zReg fun k => (zStep E (cy Y) ⟨.box 25 (.v 0), (.var 2), none, false, 0, (some 0)⟩) ((zStep E (cy Y) ⟨.box 25 (.v 1), (.var 3), none, false, 1, (some 1)⟩) ((zStep E (cy Y) ⟨.alloc 25, (.var 5), none, false, 2, (some 2)⟩) k)))
  (zSeq (zReg fun k => (zDst .push (vFieldAddr 1 (.v 2))) ((zDstW .push (wLoad 1 false (.l 0))) ((zDst .push (vFieldAddr 1 (.v 3))) ((zDstW .push (wLoad 1 false (.l 0))) ((zCall (cy Y) 51 [(.l 2), (.l 0), (.k (.clo 52 [])), (.k (.clo 53 []))] .push) ((zDst (.var 4) (vMv (.l 0))) k))))))
  (zSeq (zDreg 1 fun n0 k => (fun k sp => zDst .push (vFieldAddr 0 (.v 2)) (k sp)) ((zDstWD [0, 1, 0, 4, 15, 0, 0, 64, 192, 480, 1023, 2047] 1 .push (wLoad 1 false (.l 0))) ((fun k sp => zDst .push (vFieldAddr 0 (.v 3)) (k sp)) ((zDstWD [0, 1, 0, 4, 15, 0, 0, 64, 192, 480, 1023, 2047] 3 .push (wLoad 1 false (.l 0))) ((zCallD (cy Y) [0, 1, 0, 4, 15, 0, 0, 64, 192, 480, 1023, 2047] 4 56 [(.l 2), (.l 0), (.k (.clo 47 [])), (.k (.clo 57 []))] .push) ((fun k sp => zDst .push (vLenL (.v 4)) (k sp)) ((zStepD E (cy Y) [0, 1, 0, 4, 15, 0, 0, 64, 192, 480, 1023, 2047] n0 ⟨.most false [(.l 0), (.k (.int .i64 40))], .push, none, false, 8, none⟩) ((zStepD E (cy Y) [0, 1, 0, 4, 15, 0, 0, 64, 192, 480, 1023, 2047] n0 ⟨.slice 23 (.v 4) none (some (.l 0)) none, .push, none, false, 9, none⟩) ((zStepD E (cy Y) [0, 1, 0, 4, 15, 0, 0, 64, 192, 480, 1023, 2047] n0 ⟨.build 25 [(0, (.l 3)), (1, (.l 0))], .push, none, false, 10, none⟩) ((zStepD E (cy Y) [0, 1, 0, 4, 15, 0, 0, 64, 192, 480, 1023, 2047] n0 ⟨.store 25 (.v 5) (.l 0), .none, none, false, 11, none⟩) k))))))))))
  zRet))), [.cell (.v 5) 25]⟩
theorem G19_ok (fn : Nat → Option Func) (pu : Nat → Bool) (pr : Nat → List AV → Option (Heap → Option (Eff × Acc))) : ZOk ⟨Try.tyT, fn, pu, pr⟩ npT F19 (G19 ⟨Try.tyT, fn, pu, pr⟩) := ⟨rfl, rfl, rfl, fun cy Y k => by kernel_rfl⟩
noncomputable def F20 : FFn := ⟨56, [0, 1, 2, 6, 3, 5, 7, 4], (.seq (.reg [⟨.box 25 (.v 0), (.var 2), none, false, 0, (some 0)⟩,
    ⟨.box 25 (.v 1), (.var 4), none, false, 1, (some 1)⟩,
    ⟨.alloc 25, (.var 7), none, false, 2, (some 2)⟩]) (.seq (.dreg 3 [0, 1, 3, 0, 8, 31, 63, 0, 255] [⟨.fieldAddr 25 (.v 2) 0, .push, none, true, 0, none⟩,
    ⟨.load 22 (.l 0), .push, none, true, 1, none⟩,
    ⟨.append 22 22 (.k (.sl 0 [] true)) (.l 0), .push, none, false, 2, (some 0)⟩,
    ⟨.fieldAddr 25 (.v 2) 1, .push, none, true, 3, none⟩,
    ⟨.load 23 (.l 0), .push, none, true, 4, none⟩,
    ⟨.append 23 23 (.k (.sl 0 [] true)) (.l 0), .push, none, false, 5, (some 1)⟩,
    ⟨.build 25 [(0, (.l 3)), (1, (.l 0))], .push, none, false, 6, none⟩,
    ⟨.alloc 25, (.var 5), none, false, 7, (some 2)⟩,
    ⟨.store 25 (.v 5) (.l 0), .none, none, false, 8, none⟩]) (.seq (.seq (.reg [⟨.mv (.k (.int .i64 0)), (.var 3), none, true, 0, none⟩]) (.block 0 (.loop (.seq (.seq (.reg [⟨.fieldAddr 25 (.v 4) 0, .push, none, true, 1, none⟩,
    ⟨.load 22 (.l 0), .push, none, true, 2, none⟩,
    ⟨.len 22 (.l 0), .push, none, false, 3, none⟩,
    ⟨.bin .lss 3 false false (.v 3) (.l 0), .push, none, false, 4, none⟩]) (.cond (.l 0) .skip (.exit 0))) (.seq (.block 1 (.dreg 1 [0, 1, 0, 4, 0, 28, 60, 127, 255, 511] [⟨.fieldAddr 25 (.v 5) 0, .push, none, true, 0, none⟩,
    ⟨.load 22 (.l 0), .push, none, true, 1, none⟩,
    ⟨.fieldAddr 25 (.v 4) 0, .push, none, true, 2, none⟩,
    ⟨.load 22 (.l 0), .push, none, true, 3, none⟩,
    ⟨.indexAddr 22 (.l 0) (.v 3), .push, none, true, 5, none⟩,
    ⟨.load 56 (.l 0), .push, none, true, 6, none⟩,
    ⟨.call 58 [(.l 4), (.l 0)], .push, none, false, 7, (some 0)⟩,
    ⟨.fieldAddr 25 (.v 5) 0, .push, none, true, 8, none⟩,
    ⟨.store 22 (.l 0) (.l 1), .none, none, false, 9, none⟩])) (.reg [⟨.mv (.v 3), .push, none, true, 0, none⟩,
    ⟨.bin .add 3 false true (.l 0) (.k (.int .i64 1)), .push, none, false, 1, none⟩,
    ⟨.mv (.l 0), (.var 3), none, true, 2, none⟩])))))) (.seq (.seq (.reg [⟨.mv (.k (.int .i64 0)), (.var 6), none, true, 0, none⟩]) (.block 2 (.loop (.seq (.seq (.reg [⟨.fieldAddr 25 (.v 4) 1, .push, none, true, 1, none⟩,
    ⟨.load 23 (.l 0), .push, none, true, 2, none⟩,
    ⟨.len 23 (.l 0), .push, none, false, 3, none⟩,
    ⟨.bin .lss 3 false false (.v 6) (.l 0), .push, none, false, 4, none⟩]) (.cond (.l 0) .skip (.exit 2))) (.seq (.block 3 (.dreg 1 [0, 1, 0, 4, 0, 28, 60, 127, 255, 511] [⟨.fieldAddr 25 (.v 5) 1, .push, none, true, 0, none⟩,
    ⟨.load 23 (.l 0), .push, none, true, 1, none⟩,
    ⟨.fieldAddr 25 (.v 4) 1, .push, none, true, 2, none⟩,
    ⟨.load 23 (.l 0), .push, none, true, 3, none⟩,
    ⟨.indexAddr 23 (.l 0) (.v 6), .push, none, true, 5, none⟩,
    ⟨.load 60 (.l 0), .push, none, true, 6, none⟩,
    ⟨.call 59 [(.l 4), (.l 0)], .push, none, false, 7, (some 0)⟩,
    ⟨.fieldAddr 25 (.v 5) 1, .push, none, true, 8, none⟩,
    ⟨.store 23 (.l 0) (.l 1), .none, none, false, 9, none⟩])) (.reg [⟨.mv (.v 6), .push, none, true, 0, none⟩,
    ⟨.bin .add 3 false true (.l 0) (.k (.int .i64 1)), .push, none, false, 1, none⟩,
    ⟨.mv (.l 0), (.var 6), none, true, 2, none⟩])))))) (.seq (.reg [⟨.fieldAddr 25 (.v 5) 1, .push, none, true, 0, none⟩,
    ⟨.load 23 (.l 0), .push, none, true, 1, none⟩,
    ⟨.fieldAddr 25 (.v 5) 1, .push, none, true, 2, none⟩,
    ⟨.load 23 (.l 0), .push, none, true, 3, none⟩,
    ⟨.len 23 (.l 0), .push, none, false, 4, none⟩,
    ⟨.most false [(.l 0), (.k (.int .i64 40))], .push, none, false, 5, none⟩,
    ⟨.slice 23 (.l 4) none (some (.l 0)) none, .push, none, false, 6, none⟩,
    ⟨.fieldAddr 25 (.v 5) 1, .push, none, true, 7, none⟩,
    ⟨.store 23 (.l 0) (.l 1), .none, none, false, 8, none⟩]) (.seq (.reg [⟨.load 25 (.v 5), .push, none, true, 0, none⟩,
    ⟨.store 25 (.v 7) (.l 0), .none, none, false, 1, none⟩]) .ret)))))), [.cell (.v 7) 25]⟩
noncomputable def G20 (E : Env) : ZFn := ⟨56, [0, 1, 2, 6, 3, 5, 7, 4], fun cy Y fuel =>
  (zSeq (zReg fun k => (zStep E (cy Y) ⟨.box 25 (.v 0), (.var 2), none, false, 0, (some 0)⟩) ((zStep E (cy Y) ⟨.box 25 (.v 1), (.var 4), none, false, 1, (some 1)⟩) ((zStep E (cy Y) ⟨.alloc 25, (.var 7), none, false, 2, (some 2)⟩) k)))
  (zSeq (zDreg 3 fun n0 k => (fun k sp => zDst .push (vFieldAddr 0 (.v 2)) (k sp)) ((zDstWD [0, 1, 3, 0, 8, 31, 63, 0, 255] 1 .push (wLoad 1 false (.l 0))) ((zStepD E (cy Y) [0, 1, 3, 0, 8, 31, 63, 0, 255] n0 ⟨.append 22 22 (.k (.sl 0 [] true)) (.l 0), .push, none, false, 2, (some 0)⟩) ((fun k sp => zDst .push (vFieldAddr 1 (.v 2)) (k sp)) ((zDstWD [0, 1, 3, 0, 8, 31, 63, 0, 255] 4 .push (wLoad 1 false (.l 0))) ((zStepD E (cy Y) [0, 1, 3, 0, 8, 31, 63, 0, 255] n0 ⟨.append 23 23 (.k (.sl 0 [] true)) (.l 0), .push, none, false, 5, (some 1)⟩) ((zStepD E (cy Y) [0, 1, 3, 0, 8, 31, 63, 0, 255] n0 ⟨.build 25 [(0, (.l 3)), (1, (.l 0))], .push, none, false, 6, none⟩) ((zStepD E (cy Y) [0, 1, 3, 0, 8, 31, 63, 0, 255] n0 ⟨.alloc 25, (.var 5), none, false, 7, (some 2)⟩) ((zStepD E (cy Y) [0, 1, 3, 0, 8, 31, 63, 0, 255] n0 ⟨.store 25 (.v 5) (.l 0), .none, none, false, 8, none⟩) k)))))))))
  (zSeq (zSeq (zReg fun k => (zDst (.var 3) (vMv (.k (.int .i64 0)))) k)
  (zBlock 0 (zLoop fuel (zSeq (zSeq (zReg fun k => (zDst .push (vFieldAddr 0 (.v 4))) ((zDstW .push (wLoad 1 false (.l 0))) ((zDst .push (vLenL (.l 0))) ((zDst .push (vInt E fLss .lss 3 false false (.v 3) (.l 0))) k))))
  (zCond (.l 0) zSkip (zExit 0)))
  (zSeq (zBlock 1 (zDreg 1 fun n0 k => (fun k sp => zDst .push (vFieldAddr 0 (.v 5)) (k sp)) ((zDstWD [0, 1, 0, 4, 0, 28, 60, 127, 255, 511] 1 .push (wLoad 1 false (.l 0))) ((fun k sp => zDst .push (vFieldAddr 0 (.v 4)) (k sp)) ((zDstWD [0, 1, 0, 4, 0, 28, 60, 127, 255, 511] 3 .push (wLoad 1 false (.l 0))) ((fun k sp => zDst .push (vIndexAddr 2 (.l 0) (.v 3)) (k sp)) ((zDstWD [0, 1, 0, 4, 0, 28, 60, 127, 255, 511] 6 .push (wLoad 2 true (.l 0))) ((zCallD (cy Y) [0, 1, 0, 4, 0, 28, 60, 127, 255, 511] 7 58 [(.l 4), (.l 0)] .push) ((fun k sp => zDst .push (vFieldAddr 0 (.v 5)) (k sp)) ((zStepD E (cy Y) [0, 1, 0, 4, 0, 28, 60, 127, 255, 511] n0 ⟨.store 22 (.l 0) (.l 1), .none, none, false, 9, none⟩) k))))))))))
  (zReg fun k => (zDst .push (vMv (.v 3))) ((zDst .push (vInt E fAdd .add 3 false true (.l 0) (.k (.int .i64 1)))) ((zDst (.var 3) (vMv (.l 0))) k))))))))
  (zSeq (zSeq (zReg fun k => (zDst (.var 6) (vMv (.k (.int .i64 0)))) k)
  (zBlock 2 (zLoop fuel (zSeq (zSeq (zReg fun k => (zDst .push (vFieldAddr 1 (.v 4))) ((zDstW .push (wLoad 1 false (.l 0))) ((zDst .push (vLenL (.l 0))) ((zDst .push (vInt E fLss .lss 3 false false (.v 6) (.l 0))) k))))
  (zCond (.l 0) zSkip (zExit 2)))
  (zSeq (zBlock 3 (zDreg 1 fun n0 k => (fun k sp => zDst .push (vFieldAddr 1 (.v 5)) (k sp)) ((zDstWD [0, 1, 0, 4, 0, 28, 60, 127, 255, 511] 1 .push (wLoad 1 false (.l 0))) ((fun k sp => zDst .push (vFieldAddr 1 (.v 4)) (k sp)) ((zDstWD [0, 1, 0, 4, 0, 28, 60, 127, 255, 511] 3 .push (wLoad 1 false (.l 0))) ((fun k sp => zDst .push (vIndexAddr 3 (.l 0) (.v 6)) (k sp)) ((zDstWD [0, 1, 0, 4, 0, 28, 60, 127, 255, 511] 6 .push (wLoad 3 true (.l 0))) ((zCallD (cy Y) [0, 1, 0, 4, 0, 28, 60, 127, 255, 511] 7 59 [(.l 4), (.l 0)] .push) ((fun k sp => zDst .push (vFieldAddr 1 (.v 5)) (k sp)) ((zStepD E (cy Y) [0, 1, 0, 4, 0, 28, 60, 127, 255, 511] n0 ⟨.store 23 (.l 0) (.l 1), .none, none, false, 9, none⟩) k))))))))))
  (zReg fun k => (zDst .push (vMv (.v 6))) ((zDst .push (vInt E fAdd .add 3 false true (.l 0) (.k (.int .i64 1)))) ((zDst (.var 6) (vMv (.l 0))) k))))))))
  (zSeq (zReg fun k => (zDst .push (vFieldAddr 1 (.v 5))) ((zDstW .push (wLoad 1 false (.l 0))) ((zDst .push (vFieldAddr 1 (.v 5))) ((zDstW .push (wLoad 1 false (.l 0))) ((zDst .push (vLenL (.l 0))) ((zStep E (cy Y) ⟨.most false [(.l 0), (.k (.int .i64 40))], .push, none, false, 5, none⟩) ((zStep E (cy Y) ⟨.slice 23 (.l 4) none (some (.l 0)) none, .push, none, false, 6, none⟩) ((zDst .push (vFieldAddr 1 (.v 5))) ((zStep E (cy Y) ⟨.store 23 (.l 0) (.l 1), .none, none, false, 8, none⟩) k)))))))))
  (zSeq (zReg fun k => (zDstW .push (wLoad 2 true (.v 5))) ((zStep E (cy Y) ⟨.store 25 (.v 7) (.l 0), .none, none, false, 1, none⟩) k))
  zRet)))))), [.cell (.v 7) 25]⟩
theorem G20_ok (fn : Nat → Option Func) (pu : Nat → Bool) (pr : Nat → List AV → Option (Heap → Option (Eff × Acc))) : ZOk ⟨Try.tyT, fn, pu, pr⟩ npT F20 (G20 ⟨Try.tyT, fn, pu, pr⟩) := ⟨rfl, rfl, rfl, fun cy Y k => by kernel_rfl⟩
noncomputable def F21 : FFn := ⟨26, [0, 1, 5, 4], (.seq (.reg [⟨.mv (.k (.bool false)), (.var 3), none, true, 0, none⟩]) (.seq (.seq (.reg [⟨.len 32 (.v 0), .push, none, false, 1, none⟩,
    ⟨.len 32 (.v 1), .push, none, false, 3, none⟩,
    ⟨.bin .neq 3 false false (.l 1) (.l 0), .push, none, false, 4, none⟩]) (.cond (.l 0) (.seq (.reg [⟨.mv (.k (.bool false)), (.var 3), none, true, 0, none⟩]) .ret) .skip)) (.seq (.seq (.reg [⟨.mv (.k (.int .i64 0)), (.var 2), none, true, 0, none⟩]) (.block 0 (.loop (.seq (.seq (.reg [⟨.len 32 (.v 0), .push, none, false, 2, none⟩,
    ⟨.bin .lss 3 false false (.v 2) (.l 0), .push, none, false, 3, none⟩]) (.cond (.l 0) .skip (.exit 0))) (.seq (.block 1 (.seq (.dreg 0 [0, 0, 3, 7, 0, 0, 48, 112, 255] [⟨.indexAddr 32 (.v 0) (.v 2), .push, none, true, 2, none⟩,
    ⟨.load 3 (.l 0), .push, none, true, 3, none⟩,
    ⟨.indexAddr 32 (.v 1) (.v 2), .push, none, true, 6, none⟩,
    ⟨.load 3 (.l 0), .push, none, true, 7, none⟩,
    ⟨.bin .neq 3 false false (.l 2) (.l 0), .push, none, false, 8, none⟩]) (.cond (.l 0) (.seq (.reg [⟨.mv (.k (.bool false)), (.var 3), none, true, 0, none⟩]) .ret) .skip))) (.reg [⟨.mv (.v 2), .push, none, true, 0, none⟩,
    ⟨.bin .add 3 false true (.l 0) (.k (.int .i64 1)), .push, none, false, 1, none⟩,
    ⟨.mv (.l 0), (.var 2), none, true, 2, none⟩])))))) (.seq (.reg [⟨.mv (.k (.bool true)), (.var 3), none, true, 0, none⟩]) .ret)))), [.tmp (.v 3)]⟩
noncomputable def G21 (E : Env) : ZFn := ⟨26, [0, 1, 5, 4], fun cy Y fuel =>
  (zSeq (zReg fun k => (zDst (.var 3) (vMv (.k (.bool false)))) k)
  (zSeq (zSeq (zReg fun k => (zDst .push (vLenL (.v 0))) ((zDst .push (vLenL (.v 1))) ((zDst .push (vInt E fNeq .neq 3 false false (.l 1) (.l 0))) k)))
  (zCond (.l 0) (zSeq (zReg fun k => (zDst (.var 3) (vMv (.k (.bool false)))) k)
  zRet) zSkip))
  (zSeq (zSeq (zReg fun k => (zDst (.var 2) (vMv (.k (.int .i64 0)))) k)
  (zBlock 0 (zLoop fuel (zSeq (zSeq (zReg fun k => (zDst .push (vLenL (.v 0))) ((zDst .push (vInt E fLss .lss 3 false false (.v 2) (.l 0))) k))
  (zCond (.l 0) zSkip (zExit 0)))
  (zSeq (zBlock 1 (zSeq (zDreg 0 fun n0 k => (fun k sp => zDst .push (vIndexAddr 1 (.v 0) (.v 2)) (k sp)) ((zDstWD [0, 0, 3, 7, 0, 0, 48, 112, 255] 3 .push (wLoad 1 false (.l 0))) ((fun k sp => zDst .push (vIndexAddr 1 (.v 1) (.v 2)) (k sp)) ((zDstWD [0, 0, 3, 7, 0, 0, 48, 112, 255] 7 .push (wLoad 1 false (.l 0))) ((fun k sp => zDst .push (vInt E fNeq .neq 3 false false (.l 2) (.l 0)) (k sp)) k)))))
  (zCond (.l 0) (zSeq (zReg fun k => (zDst (.var 3) (vMv (.k (.bool false)))) k)
  zRet) zSkip)))
  (zReg fun k => (zDst .push (vMv (.v 2))) ((zDst .push (vInt E fAdd .add 3 false true (.l 0) (.k (.int .i64 1)))) ((zDst (.var 2) (vMv (.l 0))) k))))))))
  (zSeq (zReg fun k => (zDst (.var 3) (vMv (.k (.bool true)))) k)
  zRet)))), [.tmp (.v 3)]⟩
theorem G21_ok (fn : Nat → Option Func) (pu : Nat → Bool) (pr : Nat → List AV → Option (Heap → Option (Eff × Acc))) : ZOk ⟨Try.tyT, fn, pu, pr⟩ npT F21 (G21 ⟨Try.tyT, fn, pu, pr⟩) := ⟨rfl, rfl, rfl, fun cy Y k => by kernel_rfl⟩
noncomputable def F22 : FFn := ⟨24, [0, 1, 9, 8, 7, 5, 3, 2], (.seq (.reg [⟨.box 25 (.v 0), (.var 1), none, false, 0, (some 0)⟩,
    ⟨.mv (.k (.sl 0 [] true)), (.var 7), none, true, 1, none⟩]) (.seq (.reg [⟨.mv (.k (.sl 0 [] true)), (.var 6), none, true, 0, none⟩]) (.seq (.seq (.reg [⟨.fieldAddr 25 (.v 1) 0, .push, none, true, 0, none⟩,
    ⟨.load 22 (.l 0), (.var 4), none, true, 1, none⟩,
    ⟨.len 22 (.v 4), (.var 3), none, false, 2, none⟩,
    ⟨.mv (.k (.int .i64 0)), (.var 2), none, true, 3, none⟩]) (.block 0 (.loop (.seq (.reg [⟨.bin .lss 3 false false (.v 2) (.v 3), .push, none, false, 0, none⟩]) (.seq (.cond (.l 0) .skip (.exit 0)) (.seq (.block 1 (.seq (.reg [⟨.indexAddr 22 (.v 4) (.v 2), .push, none, true, 0, none⟩,
    ⟨.load 56 (.l 0), .push, none, true, 1, none⟩,
    ⟨.alloc 56, (.var 5), none, false, 2, (some 0)⟩,
    ⟨.store 56 (.v 5) (.l 0), .none, none, false, 3, none⟩]) (.seq (.reg [⟨.fieldAddr 56 (.v 5) 1, .push, none, true, 0, none⟩,
    ⟨.load 42 (.l 0), .push, none, true, 1, none⟩,
    ⟨.bin .rem 42 false true (.l 0) (.k (.int .u64 2)), .push, none, false, 2, none⟩,
    ⟨.bin .eql 42 false true (.l 0) (.k (.int .u64 1)), .push, none, false, 3, none⟩]) (.cond (.l 0) (.reg [⟨.mv (.v 6), .push, none, true, 0, none⟩,
    ⟨.fieldAddr 56 (.v 5) 0, .push, none, true, 1, none⟩,
    ⟨.load 3 (.l 0), .push, none, true, 2, none⟩,
    ⟨.buildSlice 32 1 [(0, (.l 0))], .push, none, false, 3, (some 0)⟩,
    ⟨.append 32 32 (.l 3) (.l 0), .push, none, false, 4, (some 1)⟩,
    ⟨.mv (.l 0), (.var 6), none, true, 5, none⟩]) .skip)))) (.reg [⟨.bin .add 3 false true (.v 2) (.k (.int .i64 1)), .push, none, false, 0, none⟩,
    ⟨.mv (.l 0), (.var 2), none, true, 1, none⟩]))))))) (.seq (.reg [⟨.mv (.v 6), (.var 7), none, true, 1, none⟩]) .ret)))), [.tmp (.v 7)]⟩
noncomputable def G22 (E : Env) : ZFn := ⟨24, [0, 1, 9, 8, 7, 5, 3, 2], fun cy Y fuel =>
  (zSeq (zReg fun k => (zStep E (cy Y) ⟨.box 25 (.v 0), (.var 1), none, false, 0, (some 0)⟩) ((zDst (.var 7) (vMv (.k (.sl 0 [] true)))) k))
  (zSeq (zReg fun k => (zDst (.var 6) (vMv (.k (.sl 0 [] true)))) k)
  (zSeq (zSeq (zReg fun k => (zDst .push (vFieldAddr 0 (.v 1))) ((zDstW (.var 4) (wLoad 1 false (.l 0))) ((zDst (.var 3) (vLenL (.v 4))) ((zDst (.var 2) (vMv (.k (.int .i64 0)))) k))))
  (zBlock 0 (zLoop fuel (zSeq (zReg fun k => (zDst .push (vInt E fLss .lss 3 false false (.v 2) (.v 3))) k)
  (zSeq (zCond (.l 0) zSkip (zExit 0))
  (zSeq (zBlock 1 (zSeq (zReg fun k => (zDst .push (vIndexAddr 2 (.v 4) (.v 2))) ((zDstW .push (wLoad 2 true (.l 0))) ((zStep E (cy Y) ⟨.alloc 56, (.var 5), none, false, 2, (some 0)⟩) ((zStep E (cy Y) ⟨.store 56 (.v 5) (.l 0), .none, none, false, 3, none⟩) k))))
  (zSeq (zReg fun k => (zDst .push (vFieldAddr 1 (.v 5))) ((zDstW .push (wLoad 1 false (.l 0))) ((zDst .push (vInt E (fGen .rem) .rem 42 false true (.l 0) (.k (.int .u64 2)))) ((zDst .push (vInt E fEql .eql 42 false true (.l 0) (.k (.int .u64 1)))) k))))
  (zCond (.l 0) (zReg fun k => (zDst .push (vMv (.v 6))) ((zDst .push (vFieldAddr 0 (.v 5))) ((zDstW .push (wLoad 1 false (.l 0))) ((zStep E (cy Y) ⟨.buildSlice 32 1 [(0, (.l 0))], .push, none, false, 3, (some 0)⟩) ((zStep E (cy Y) ⟨.append 32 32 (.l 3) (.l 0), .push, none, false, 4, (some 1)⟩) ((zDst (.var 6) (vMv (.l 0))) k)))))) zSkip))))
  (zReg fun k => (zDst .push (vInt E fAdd .add 3 false true (.v 2) (.k (.int .i64 1)))) ((zDst (.var 2) (vMv (.l 0))) k))))))))
  (zSeq (zReg fun k => (zDst (.var 7) (vMv (.v 6))) k)
  zRet)))), [.tmp (.v 7)]⟩
theorem G22_ok (fn : Nat → Option Func) (pu : Nat → Bool) (pr : Nat → List AV → Option (Heap → Option (Eff × Acc))) : ZOk ⟨Try.tyT, fn, pu, pr⟩ npT F22 (G22 ⟨Try.tyT, fn, pu, pr⟩) := ⟨rfl, rfl, rfl, fun cy Y k => by kernel_rfl⟩
end Go.Proofs.PxTry
