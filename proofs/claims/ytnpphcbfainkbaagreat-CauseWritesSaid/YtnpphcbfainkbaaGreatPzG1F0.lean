/- The functions of the seat, in one breath: part 0. -/
import Derived.Test.YtnpphcbfainkbaaGreatPzE
import Derived.Test.YtnpphcbfainkbaaGreatProg
import Derived.Test.YtnpphcbfainkbaaGreatPxEnvG1
import Derived.KernelRfl
set_option maxRecDepth 100000
set_option linter.unusedVariables false
set_option linter.unusedSimpArgs false
namespace Go.Proofs.PxG1
open Go Go.Px Go.Proofs
def toldT : List Nat := [6, 7, 9, 10, 19, 168]
def npT (f : Nat) : Bool := !(toldT.any fun g => Nat.beq g f)
noncomputable def L0 : LFn := ⟨87, [64, 14, 15], [(some 0)], (.reg [⟨.alloc 55, (.var 2), none, false, 0, (some 0)⟩,
    ⟨.store 55 (.v 2) (.v 0), .none, none, false, 1, none⟩]), (.block 1 (.dreg 4 [0, 1, 0, 4, 12, 31, 0, 64, 0, 256, 768, 2047, 255, 8191, 16383, 32767] [⟨.fieldAddr 30 (.v 1) 2, .push, none, true, 0, none⟩,
    ⟨.load 26 (.l 0), .push, none, true, 1, none⟩,
    ⟨.fieldAddr 55 (.v 2) 0, .push, none, true, 2, none⟩,
    ⟨.load 9 (.l 0), .push, none, true, 3, none⟩,
    ⟨.buildSlice 26 1 [(0, (.l 0))], .push, none, false, 4, (some 0)⟩,
    ⟨.append 26 26 (.l 3) (.l 0), .push, none, false, 5, (some 1)⟩,
    ⟨.fieldAddr 30 (.v 1) 4, .push, none, true, 6, none⟩,
    ⟨.load 28 (.l 0), .push, none, true, 7, none⟩,
    ⟨.fieldAddr 55 (.v 2) 1, .push, none, true, 8, none⟩,
    ⟨.load 30 (.l 0), .push, none, true, 9, none⟩,
    ⟨.buildSlice 28 1 [(0, (.l 0))], .push, none, false, 10, (some 2)⟩,
    ⟨.append 28 28 (.l 3) (.l 0), .push, none, false, 11, (some 3)⟩,
    ⟨.fieldAddr 30 (.v 1) 2, .push, none, true, 12, none⟩,
    ⟨.store 26 (.l 0) (.l 7), .none, none, false, 13, none⟩,
    ⟨.fieldAddr 30 (.v 1) 4, .push, none, true, 14, none⟩,
    ⟨.store 28 (.l 0) (.l 2), .none, none, false, 15, none⟩]))⟩
noncomputable def M0 (E : Env) : ZLn := ⟨87, [64, 14, 15], [(some 0)], fun cy Y fuel =>
  (zReg fun k => (zStep E (cy Y) ⟨.alloc 55, (.var 2), none, false, 0, (some 0)⟩) ((zStep E (cy Y) ⟨.store 55 (.v 2) (.v 0), .none, none, false, 1, none⟩) k)), fun cy Y fuel =>
  (zBlock 1 (zDreg 4 fun n0 k => (fun k sp => zDst .push (vFieldAddr 2 (.v 1)) (k sp)) ((zDstWD [0, 1, 0, 4, 12, 31, 0, 64, 0, 256, 768, 2047, 255, 8191, 16383, 32767] 1 .push (wLoad 1 false (.l 0))) ((fun k sp => zDst .push (vFieldAddr 0 (.v 2)) (k sp)) ((zDstWD [0, 1, 0, 4, 12, 31, 0, 64, 0, 256, 768, 2047, 255, 8191, 16383, 32767] 3 .push (wLoad 1 false (.l 0))) ((zStepD E (cy Y) [0, 1, 0, 4, 12, 31, 0, 64, 0, 256, 768, 2047, 255, 8191, 16383, 32767] n0 ⟨.buildSlice 26 1 [(0, (.l 0))], .push, none, false, 4, (some 0)⟩) ((zStepD E (cy Y) [0, 1, 0, 4, 12, 31, 0, 64, 0, 256, 768, 2047, 255, 8191, 16383, 32767] n0 ⟨.append 26 26 (.l 3) (.l 0), .push, none, false, 5, (some 1)⟩) ((fun k sp => zDst .push (vFieldAddr 4 (.v 1)) (k sp)) ((zDstWD [0, 1, 0, 4, 12, 31, 0, 64, 0, 256, 768, 2047, 255, 8191, 16383, 32767] 7 .push (wLoad 1 false (.l 0))) ((fun k sp => zDst .push (vFieldAddr 1 (.v 2)) (k sp)) ((zDstWD [0, 1, 0, 4, 12, 31, 0, 64, 0, 256, 768, 2047, 255, 8191, 16383, 32767] 9 .push (wLoad 5 true (.l 0))) ((zStepD E (cy Y) [0, 1, 0, 4, 12, 31, 0, 64, 0, 256, 768, 2047, 255, 8191, 16383, 32767] n0 ⟨.buildSlice 28 1 [(0, (.l 0))], .push, none, false, 10, (some 2)⟩) ((zStepD E (cy Y) [0, 1, 0, 4, 12, 31, 0, 64, 0, 256, 768, 2047, 255, 8191, 16383, 32767] n0 ⟨.append 28 28 (.l 3) (.l 0), .push, none, false, 11, (some 3)⟩) ((fun k sp => zDst .push (vFieldAddr 2 (.v 1)) (k sp)) ((zStepD E (cy Y) [0, 1, 0, 4, 12, 31, 0, 64, 0, 256, 768, 2047, 255, 8191, 16383, 32767] n0 ⟨.store 26 (.l 0) (.l 7), .none, none, false, 13, none⟩) ((fun k sp => zDst .push (vFieldAddr 4 (.v 1)) (k sp)) ((zStepD E (cy Y) [0, 1, 0, 4, 12, 31, 0, 64, 0, 256, 768, 2047, 255, 8191, 16383, 32767] n0 ⟨.store 28 (.l 0) (.l 2), .none, none, false, 15, none⟩) k)))))))))))))))))⟩
theorem M0_ok (fn : Nat → Option Func) (pu : Nat → Bool) (pr : Nat → List AV → Option (Heap → Option (Eff × Acc))) : ZLOk ⟨Tryz.tyT, fn, pu, pr⟩ npT L0 (M0 ⟨Tryz.tyT, fn, pu, pr⟩) := ⟨rfl, fun cy Y k => by kernel_rfl, fun cy Y k => by kernel_rfl⟩
noncomputable def L1 : LFn := ⟨31, [19, 6, 8], [none, (some 0)], (.reg [⟨.alloc 30, (.var 2), none, false, 0, (some 0)⟩,
    ⟨.store 30 (.v 2) (.v 0), .none, none, false, 1, none⟩]), (.block 1 (.dreg 2 [0, 0, 1, 0, 15, 31, 63, 31] [⟨.load 28 (.v 1), .push, none, true, 0, none⟩,
    ⟨.load 30 (.v 2), .push, none, true, 1, none⟩,
    ⟨.len 28 (.l 1), .push, none, false, 2, none⟩,
    ⟨.buildSlice 28 1 [(0, (.k (.agg [(.int .u64 0), (.int .u64 0), (.sl 0 [] true), (.sl 0 [] true), (.sl 0 [] true)])))], .push, none, false, 3, (some 0)⟩,
    ⟨.append 28 28 (.l 3) (.l 0), .push, none, false, 4, (some 1)⟩,
    ⟨.indexAddr 28 (.l 0) (.l 2), .push, none, true, 5, none⟩,
    ⟨.store 30 (.l 0) (.l 4), .none, none, false, 6, none⟩,
    ⟨.store 28 (.v 1) (.l 1), .none, none, false, 7, none⟩]))⟩
noncomputable def M1 (E : Env) : ZLn := ⟨31, [19, 6, 8], [none, (some 0)], fun cy Y fuel =>
  (zReg fun k => (zStep E (cy Y) ⟨.alloc 30, (.var 2), none, false, 0, (some 0)⟩) ((zStep E (cy Y) ⟨.store 30 (.v 2) (.v 0), .none, none, false, 1, none⟩) k)), fun cy Y fuel =>
  (zBlock 1 (zDreg 2 fun n0 k => (zDstWD [0, 0, 1, 0, 15, 31, 63, 31] 0 .push (wLoad 1 false (.v 1))) ((zDstWD [0, 0, 1, 0, 15, 31, 63, 31] 1 .push (wLoad 5 true (.v 2))) ((fun k sp => zDst .push (vLenL (.l 1)) (k sp)) ((zStepD E (cy Y) [0, 0, 1, 0, 15, 31, 63, 31] n0 ⟨.buildSlice 28 1 [(0, (.k (.agg [(.int .u64 0), (.int .u64 0), (.sl 0 [] true), (.sl 0 [] true), (.sl 0 [] true)])))], .push, none, false, 3, (some 0)⟩) ((zStepD E (cy Y) [0, 0, 1, 0, 15, 31, 63, 31] n0 ⟨.append 28 28 (.l 3) (.l 0), .push, none, false, 4, (some 1)⟩) ((fun k sp => zDst .push (vIndexAddr 5 (.l 0) (.l 2)) (k sp)) ((zStepD E (cy Y) [0, 0, 1, 0, 15, 31, 63, 31] n0 ⟨.store 30 (.l 0) (.l 4), .none, none, false, 6, none⟩) ((zStepD E (cy Y) [0, 0, 1, 0, 15, 31, 63, 31] n0 ⟨.store 28 (.v 1) (.l 1), .none, none, false, 7, none⟩) k)))))))))⟩
theorem M1_ok (fn : Nat → Option Func) (pu : Nat → Bool) (pr : Nat → List AV → Option (Heap → Option (Eff × Acc))) : ZLOk ⟨Tryz.tyT, fn, pu, pr⟩ npT L1 (M1 ⟨Tryz.tyT, fn, pu, pr⟩) := ⟨rfl, fun cy Y k => by kernel_rfl, fun cy Y k => by kernel_rfl⟩
noncomputable def L2 : LFn := ⟨69, [14, 4, 19, 18, 17, 5, 3, 6], [(some 0), none], (.reg [⟨.alloc 30, (.var 1), none, false, 0, (some 0)⟩,
    ⟨.store 30 (.v 1) (.v 0), .none, none, false, 1, none⟩]), (.block 1 (.seq (.reg [⟨.fieldAddr 30 (.v 1) 2, .push, none, true, 0, none⟩,
    ⟨.load 26 (.l 0), (.var 4), none, true, 1, none⟩,
    ⟨.len 26 (.v 4), (.var 3), none, false, 2, none⟩,
    ⟨.mv (.k (.int .i64 0)), (.var 2), none, true, 3, none⟩]) (.block 2 (.loop (.seq (.reg [⟨.bin .lss 3 false false (.v 2) (.v 3), .push, none, false, 0, none⟩]) (.seq (.cond (.l 0) .skip (.exit 2)) (.seq (.block 3 (.seq (.reg [⟨.indexAddr 26 (.v 4) (.v 2), .push, none, true, 1, none⟩,
    ⟨.load 9 (.l 0), .push, none, true, 2, none⟩,
    ⟨.mv (.v 2), (.var 5), none, true, 3, none⟩,
    ⟨.mv (.l 0), (.var 7), none, true, 4, none⟩]) (.seq (.reg [⟨.fieldAddr 30 (.v 1) 4, .push, none, true, 1, none⟩,
    ⟨.load 28 (.l 0), .push, none, true, 2, none⟩,
    ⟨.len 28 (.l 0), .push, none, false, 3, none⟩,
    ⟨.bin .lss 3 false false (.v 5) (.l 0), .push, none, false, 4, none⟩]) (.cond (.l 0) (.dreg 2 [0, 0, 0, 0, 12, 0, 32, 0, 224, 480, 992, 2016, 4092, 8191] [⟨.load 81 (.v 6), .push, none, true, 0, none⟩,
    ⟨.load 81 (.v 6), .push, none, true, 2, none⟩,
    ⟨.lookup 81 (.l 0) (.v 7) false, .push, none, false, 4, none⟩,
    ⟨.fieldAddr 30 (.v 1) 4, .push, none, true, 5, none⟩,
    ⟨.load 28 (.l 0), .push, none, true, 6, none⟩,
    ⟨.indexAddr 28 (.l 0) (.v 5), .push, none, true, 8, none⟩,
    ⟨.fieldAddr 30 (.l 0) 3, .push, none, true, 9, none⟩,
    ⟨.load 27 (.l 0), .push, none, true, 10, none⟩,
    ⟨.call 37 [(.l 0)], .push, none, false, 11, (some 0)⟩,
    ⟨.call 36 [(.l 6), (.l 0)], .push, none, false, 12, (some 1)⟩,
    ⟨.mapUp 81 (.l 9) (.v 7) (.l 0), .none, none, false, 13, none⟩]) .skip)))) (.reg [⟨.bin .add 3 false true (.v 2) (.k (.int .i64 1)), .push, none, false, 0, none⟩,
    ⟨.mv (.l 0), (.var 2), none, true, 1, none⟩]))))))))⟩
noncomputable def M2 (E : Env) : ZLn := ⟨69, [14, 4, 19, 18, 17, 5, 3, 6], [(some 0), none], fun cy Y fuel =>
  (zReg fun k => (zStep E (cy Y) ⟨.alloc 30, (.var 1), none, false, 0, (some 0)⟩) ((zStep E (cy Y) ⟨.store 30 (.v 1) (.v 0), .none, none, false, 1, none⟩) k)), fun cy Y fuel =>
  (zBlock 1 (zSeq (zReg fun k => (zDst .push (vFieldAddr 2 (.v 1))) ((zDstW (.var 4) (wLoad 1 false (.l 0))) ((zDst (.var 3) (vLenL (.v 4))) ((zDst (.var 2) (vMv (.k (.int .i64 0)))) k))))
  (zBlock 2 (zLoop fuel (zSeq (zReg fun k => (zDst .push (vInt E fLss .lss 3 false false (.v 2) (.v 3))) k)
  (zSeq (zCond (.l 0) zSkip (zExit 2))
  (zSeq (zBlock 3 (zSeq (zReg fun k => (zDst .push (vIndexAddr 1 (.v 4) (.v 2))) ((zDstW .push (wLoad 1 false (.l 0))) ((zDst (.var 5) (vMv (.v 2))) ((zDst (.var 7) (vMv (.l 0))) k))))
  (zSeq (zReg fun k => (zDst .push (vFieldAddr 4 (.v 1))) ((zDstW .push (wLoad 1 false (.l 0))) ((zDst .push (vLenL (.l 0))) ((zDst .push (vInt E fLss .lss 3 false false (.v 5) (.l 0))) k))))
  (zCond (.l 0) (zDreg 2 fun n0 k => (zDstWD [0, 0, 0, 0, 12, 0, 32, 0, 224, 480, 992, 2016, 4092, 8191] 0 .push (wLoad 1 false (.v 6))) ((zDstWD [0, 0, 0, 0, 12, 0, 32, 0, 224, 480, 992, 2016, 4092, 8191] 2 .push (wLoad 1 false (.v 6))) ((zStepD E (cy Y) [0, 0, 0, 0, 12, 0, 32, 0, 224, 480, 992, 2016, 4092, 8191] n0 ⟨.lookup 81 (.l 0) (.v 7) false, .push, none, false, 4, none⟩) ((fun k sp => zDst .push (vFieldAddr 4 (.v 1)) (k sp)) ((zDstWD [0, 0, 0, 0, 12, 0, 32, 0, 224, 480, 992, 2016, 4092, 8191] 6 .push (wLoad 1 false (.l 0))) ((fun k sp => zDst .push (vIndexAddr 5 (.l 0) (.v 5)) (k sp)) ((fun k sp => zDst .push (vFieldAddr 3 (.l 0)) (k sp)) ((zDstWD [0, 0, 0, 0, 12, 0, 32, 0, 224, 480, 992, 2016, 4092, 8191] 10 .push (wLoad 1 false (.l 0))) ((zCallD (cy Y) [0, 0, 0, 0, 12, 0, 32, 0, 224, 480, 992, 2016, 4092, 8191] 11 37 [(.l 0)] .push) ((zCallD (cy Y) [0, 0, 0, 0, 12, 0, 32, 0, 224, 480, 992, 2016, 4092, 8191] 12 36 [(.l 6), (.l 0)] .push) ((zStepD E (cy Y) [0, 0, 0, 0, 12, 0, 32, 0, 224, 480, 992, 2016, 4092, 8191] n0 ⟨.mapUp 81 (.l 9) (.v 7) (.l 0), .none, none, false, 13, none⟩) k))))))))))) zSkip))))
  (zReg fun k => (zDst .push (vInt E fAdd .add 3 false true (.v 2) (.k (.int .i64 1)))) ((zDst (.var 2) (vMv (.l 0))) k)))))))))⟩
theorem M2_ok (fn : Nat → Option Func) (pu : Nat → Bool) (pr : Nat → List AV → Option (Heap → Option (Eff × Acc))) : ZLOk ⟨Tryz.tyT, fn, pu, pr⟩ npT L2 (M2 ⟨Tryz.tyT, fn, pu, pr⟩) := ⟨rfl, fun cy Y k => by kernel_rfl, fun cy Y k => by kernel_rfl⟩
noncomputable def L3 : LFn := ⟨69, [57, 9, 10, 3], [(some 0)], (.reg [⟨.mv (.v 0), (.var 2), none, true, 0, none⟩]), (.block 7 (.reg [⟨.load 50 (.v 1), .push, none, true, 0, none⟩,
    ⟨.load 81 (.v 3), .push, none, true, 2, none⟩,
    ⟨.lookup 81 (.l 0) (.v 2) false, .push, none, false, 4, none⟩,
    ⟨.buildSlice 27 1 [(0, (.l 0))], .push, none, false, 5, (some 0)⟩,
    ⟨.build 30 [(3, (.l 0))], .push, none, false, 6, none⟩,
    ⟨.build 55 [(0, (.v 2)), (1, (.l 0))], .push, none, false, 7, none⟩,
    ⟨.buildSlice 50 1 [(0, (.l 0))], .push, none, false, 8, (some 1)⟩,
    ⟨.append 50 50 (.l 6) (.l 0), .push, none, false, 9, (some 2)⟩,
    ⟨.store 50 (.v 1) (.l 0), .none, none, false, 10, none⟩]))⟩
noncomputable def M3 (E : Env) : ZLn := ⟨69, [57, 9, 10, 3], [(some 0)], fun cy Y fuel =>
  (zReg fun k => (zDst (.var 2) (vMv (.v 0))) k), fun cy Y fuel =>
  (zBlock 7 (zReg fun k => (zDstW .push (wLoad 1 false (.v 1))) ((zDstW .push (wLoad 1 false (.v 3))) ((zStep E (cy Y) ⟨.lookup 81 (.l 0) (.v 2) false, .push, none, false, 4, none⟩) ((zStep E (cy Y) ⟨.buildSlice 27 1 [(0, (.l 0))], .push, none, false, 5, (some 0)⟩) ((zStep E (cy Y) ⟨.build 30 [(3, (.l 0))], .push, none, false, 6, none⟩) ((zStep E (cy Y) ⟨.build 55 [(0, (.v 2)), (1, (.l 0))], .push, none, false, 7, none⟩) ((zStep E (cy Y) ⟨.buildSlice 50 1 [(0, (.l 0))], .push, none, false, 8, (some 1)⟩) ((zStep E (cy Y) ⟨.append 50 50 (.l 6) (.l 0), .push, none, false, 9, (some 2)⟩) ((zStep E (cy Y) ⟨.store 50 (.v 1) (.l 0), .none, none, false, 10, none⟩) k))))))))))⟩
theorem M3_ok (fn : Nat → Option Func) (pu : Nat → Bool) (pr : Nat → List AV → Option (Heap → Option (Eff × Acc))) : ZLOk ⟨Tryz.tyT, fn, pu, pr⟩ npT L3 (M3 ⟨Tryz.tyT, fn, pu, pr⟩) := ⟨rfl, fun cy Y k => by kernel_rfl, fun cy Y k => by kernel_rfl⟩
noncomputable def L4 : LFn := ⟨13, [8, 3, 4], [(some 0)], (.reg [⟨.mv (.v 0), (.var 2), none, true, 0, none⟩]), (.block 1 (.reg [⟨.load 58 (.v 1), .push, none, true, 0, none⟩,
    ⟨.call 36 [(.l 0), (.v 2)], .push, none, false, 2, (some 0)⟩,
    ⟨.store 58 (.v 1) (.l 0), .none, none, false, 3, none⟩]))⟩
noncomputable def M4 (E : Env) : ZLn := ⟨13, [8, 3, 4], [(some 0)], fun cy Y fuel =>
  (zReg fun k => (zDst (.var 2) (vMv (.v 0))) k), fun cy Y fuel =>
  (zBlock 1 (zReg fun k => (zDstW .push (wLoad 1 false (.v 1))) ((zCall (cy Y) 36 [(.l 0), (.v 2)] .push) ((zStep E (cy Y) ⟨.store 58 (.v 1) (.l 0), .none, none, false, 3, none⟩) k))))⟩
theorem M4_ok (fn : Nat → Option Func) (pu : Nat → Bool) (pr : Nat → List AV → Option (Heap → Option (Eff × Acc))) : ZLOk ⟨Tryz.tyT, fn, pu, pr⟩ npT L4 (M4 ⟨Tryz.tyT, fn, pu, pr⟩) := ⟨rfl, fun cy Y k => by kernel_rfl, fun cy Y k => by kernel_rfl⟩
noncomputable def L5 : LFn := ⟨33, [19, 2, 6, 7, 9, 4, 5, 8], [(some 0)], (.reg [⟨.alloc 30, (.var 3), none, false, 0, (some 0)⟩,
    ⟨.store 30 (.v 3) (.v 0), .none, none, false, 1, none⟩]), (.block 1 (.seq (.reg [⟨.load 24 (.v 1), .push, none, true, 0, none⟩,
    ⟨.load 30 (.v 2), .push, none, true, 1, none⟩,
    ⟨.load 30 (.v 3), .push, none, true, 2, none⟩,
    ⟨.call 58 [(.l 2), (.l 1), (.l 0)], .push, none, false, 3, (some 0)⟩,
    ⟨.extract (.l 0) 0, .push, none, true, 5, none⟩,
    ⟨.extract (.l 1) 1, .push, none, true, 6, none⟩,
    ⟨.alloc 30, (.var 7), none, false, 7, (some 1)⟩,
    ⟨.store 30 (.v 7) (.l 1), .none, none, false, 8, none⟩,
    ⟨.mv (.l 0), (.var 4), none, true, 9, none⟩]) (.seq (.seq (.reg [⟨.bin .neq 33 false true (.v 4) (.k .nilIface), .push, none, false, 1, none⟩]) (.cond (.l 0) (.seq (.reg [⟨.build 30 [], .push, none, false, 0, none⟩,
    ⟨.store 30 (.v 5) (.l 0), .none, none, false, 2, none⟩,
    ⟨.store 33 (.v 6) (.v 4), .none, none, false, 3, none⟩]) .ret) .skip)) (.reg [⟨.load 30 (.v 7), .push, none, true, 0, none⟩,
    ⟨.store 30 (.v 2) (.l 0), .none, none, false, 1, none⟩]))))⟩
noncomputable def M5 (E : Env) : ZLn := ⟨33, [19, 2, 6, 7, 9, 4, 5, 8], [(some 0)], fun cy Y fuel =>
  (zReg fun k => (zStep E (cy Y) ⟨.alloc 30, (.var 3), none, false, 0, (some 0)⟩) ((zStep E (cy Y) ⟨.store 30 (.v 3) (.v 0), .none, none, false, 1, none⟩) k)), fun cy Y fuel =>
  (zBlock 1 (zSeq (zReg fun k => (zDstW .push (wLoad 2 true (.v 1))) ((zDstW .push (wLoad 5 true (.v 2))) ((zDstW .push (wLoad 5 true (.v 3))) ((zCall (cy Y) 58 [(.l 2), (.l 1), (.l 0)] .push) ((zDst .push (vExtract 0 (.l 0))) ((zDst .push (vExtract 1 (.l 1))) ((zStep E (cy Y) ⟨.alloc 30, (.var 7), none, false, 7, (some 1)⟩) ((zStep E (cy Y) ⟨.store 30 (.v 7) (.l 1), .none, none, false, 8, none⟩) ((zDst (.var 4) (vMv (.l 0))) k)))))))))
  (zSeq (zSeq (zReg fun k => (zDst .push (vInt E fNeq .neq 33 false true (.v 4) (.k .nilIface))) k)
  (zCond (.l 0) (zSeq (zReg fun k => (zStep E (cy Y) ⟨.build 30 [], .push, none, false, 0, none⟩) ((zStep E (cy Y) ⟨.store 30 (.v 5) (.l 0), .none, none, false, 2, none⟩) ((zStep E (cy Y) ⟨.store 33 (.v 6) (.v 4), .none, none, false, 3, none⟩) k)))
  zRet) zSkip))
  (zReg fun k => (zDstW .push (wLoad 5 true (.v 7))) ((zStep E (cy Y) ⟨.store 30 (.v 2) (.l 0), .none, none, false, 1, none⟩) k)))))⟩
theorem M5_ok (fn : Nat → Option Func) (pu : Nat → Bool) (pr : Nat → List AV → Option (Heap → Option (Eff × Acc))) : ZLOk ⟨Tryz.tyT, fn, pu, pr⟩ npT L5 (M5 ⟨Tryz.tyT, fn, pu, pr⟩) := ⟨rfl, fun cy Y k => by kernel_rfl, fun cy Y k => by kernel_rfl⟩
noncomputable def L6 : LFn := ⟨31, [19, 20, 5, 6, 2], [(some 0), (some 1)], (.seq (.reg [⟨.mv (.v 0), (.var 2), none, true, 0, none⟩]) (.reg [⟨.mv (.v 1), (.var 3), none, true, 0, none⟩])), (.block 3 (.seq (.reg [⟨.call 116 [(.v 2), (.v 3)], .push, none, false, 2, (some 0)⟩,
    ⟨.bin .geq 3 false true (.l 0) (.k (.int .i64 0)), .push, none, false, 3, none⟩,
    ⟨.mv (.v 2), .push, (some ((.l 0), false)), true, 5, none⟩,
    ⟨.mv (.v 3), .push, (some ((.l 1), false)), true, 6, none⟩,
    ⟨.call 117 [(.l 1), (.l 0)], .push, (some ((.l 2), false)), false, 7, (some 1)⟩,
    ⟨.bin .neq 3 false true (.l 0) (.k (.int .i64 2)), .push, (some ((.l 3), false)), false, 8, none⟩,
    ⟨.pick (.l 4) (.k (.bool true)) (.l 0), .push, none, true, 9, none⟩]) (.cond (.l 0) (.seq (.reg [⟨.store 4 (.v 4) (.k (.bool false)), .none, none, false, 0, none⟩]) .ret) .skip)))⟩
noncomputable def M6 (E : Env) : ZLn := ⟨31, [19, 20, 5, 6, 2], [(some 0), (some 1)], fun cy Y fuel =>
  (zSeq (zReg fun k => (zDst (.var 2) (vMv (.v 0))) k)
  (zReg fun k => (zDst (.var 3) (vMv (.v 1))) k)), fun cy Y fuel =>
  (zBlock 3 (zSeq (zReg fun k => (zCall (cy Y) 116 [(.v 2), (.v 3)] .push) ((zDst .push (vInt E (fGen .geq) .geq 3 false true (.l 0) (.k (.int .i64 0)))) ((zG (.l 0) false .push (zDst .push (vMv (.v 2)))) ((zG (.l 1) false .push (zDst .push (vMv (.v 3)))) ((zG (.l 2) false .push (zCall (cy Y) 117 [(.l 1), (.l 0)] .push)) ((zG (.l 3) false .push (zDst .push (vInt E fNeq .neq 3 false true (.l 0) (.k (.int .i64 2))))) ((zDst .push (vPick (.l 4) (.k (.bool true)) (.l 0))) k)))))))
  (zCond (.l 0) (zSeq (zReg fun k => (zStep E (cy Y) ⟨.store 4 (.v 4) (.k (.bool false)), .none, none, false, 0, none⟩) k)
  zRet) zSkip)))⟩
theorem M6_ok (fn : Nat → Option Func) (pu : Nat → Bool) (pr : Nat → List AV → Option (Heap → Option (Eff × Acc))) : ZLOk ⟨Tryz.tyT, fn, pu, pr⟩ npT L6 (M6 ⟨Tryz.tyT, fn, pu, pr⟩) := ⟨rfl, fun cy Y k => by kernel_rfl, fun cy Y k => by kernel_rfl⟩
noncomputable def L7 : LFn := ⟨12, [7, 8, 3, 4, 2], [(some 0), (some 1)], (.seq (.reg [⟨.mv (.v 0), (.var 2), none, true, 0, none⟩]) (.reg [⟨.mv (.v 1), (.var 3), none, true, 0, none⟩])), (.block 1 (.seq (.reg [⟨.bin .geq 9 false false (.v 2) (.v 3), .push, none, false, 2, none⟩]) (.cond (.l 0) (.seq (.reg [⟨.store 4 (.v 4) (.k (.bool false)), .none, none, false, 0, none⟩]) .ret) .skip)))⟩
noncomputable def M7 (E : Env) : ZLn := ⟨12, [7, 8, 3, 4, 2], [(some 0), (some 1)], fun cy Y fuel =>
  (zSeq (zReg fun k => (zDst (.var 2) (vMv (.v 0))) k)
  (zReg fun k => (zDst (.var 3) (vMv (.v 1))) k)), fun cy Y fuel =>
  (zBlock 1 (zSeq (zReg fun k => (zDst .push (vInt E (fGen .geq) .geq 9 false false (.v 2) (.v 3))) k)
  (zCond (.l 0) (zSeq (zReg fun k => (zStep E (cy Y) ⟨.store 4 (.v 4) (.k (.bool false)), .none, none, false, 0, none⟩) k)
  zRet) zSkip)))⟩
theorem M7_ok (fn : Nat → Option Func) (pu : Nat → Bool) (pr : Nat → List AV → Option (Heap → Option (Eff × Acc))) : ZLOk ⟨Tryz.tyT, fn, pu, pr⟩ npT L7 (M7 ⟨Tryz.tyT, fn, pu, pr⟩) := ⟨rfl, fun cy Y k => by kernel_rfl, fun cy Y k => by kernel_rfl⟩
noncomputable def F4 : FFn := ⟨102, [0, 9, 7, 6, 1, 10, 12, 5, 11, 14, 13, 16, 8, 15, 4], (.seq (.reg [⟨.mv (.k (.bool false)), (.var 14), none, true, 0, none⟩]) (.seq (.seq (.reg [⟨.call 6 [], .push, none, false, 0, (some 0)⟩,
    ⟨.un .not (.l 0), .push, none, false, 1, none⟩]) (.cond (.l 0) (.seq (.reg [⟨.mv (.k (.bool false)), (.var 14), none, true, 0, none⟩]) .ret) .skip)) (.seq (.reg [⟨.call 14 [], .push, none, false, 0, (some 0)⟩,
    ⟨.call 8 [(.l 0)], .push, none, false, 1, (some 1)⟩,
    ⟨.alloc 24, (.var 7), none, false, 2, (some 2)⟩,
    ⟨.store 24 (.v 7) (.l 0), .none, none, false, 3, none⟩]) (.seq (.reg [⟨.build 30 [], .push, none, false, 0, none⟩,
    ⟨.alloc 30, (.var 3), none, false, 1, (some 0)⟩,
    ⟨.store 30 (.v 3) (.l 0), .none, none, false, 2, none⟩]) (.seq (.reg [⟨.bin .rem 5 false true (.v 0) (.k (.int .u8 8)), .push, none, false, 1, none⟩,
    ⟨.conv 5 3 (.l 0), .push, none, false, 2, none⟩,
    ⟨.bin .add 3 false true (.l 0) (.k (.int .i64 1)), .push, none, false, 3, none⟩,
    ⟨.mv (.l 0), (.var 2), none, true, 4, none⟩]) (.seq (.reg [⟨.mv (.k (.bool true)), (.var 12), none, true, 0, none⟩]) (.seq (.seq (.reg [⟨.mv (.k (.int .i64 0)), (.var 1), none, true, 0, none⟩]) (.block 0 (.loop (.seq (.seq (.reg [⟨.bin .lss 3 false false (.v 1) (.v 2), .push, none, false, 2, none⟩]) (.cond (.l 0) .skip (.exit 0))) (.seq (.block 1 (.seq (.reg [⟨.load 30 (.v 3), .push, none, true, 0, none⟩,
    ⟨.alloc 30, (.var 5), none, false, 1, (some 0)⟩,
    ⟨.store 30 (.v 5) (.l 0), .none, none, false, 2, none⟩]) (.seq (.seq (.reg [⟨.conv 3 47 (.v 1), .push, none, false, 2, none⟩,
    ⟨.bin .shr 45 false false (.v 4) (.l 0), .push, none, false, 3, none⟩,
    ⟨.bin .and 45 false true (.l 0) (.k (.int .u16 1)), .push, none, false, 4, none⟩,
    ⟨.bin .eql 45 false true (.l 0) (.k (.int .u16 0)), .push, none, false, 5, none⟩]) (.cond (.l 0) (.reg [⟨.build 30 [], .push, none, false, 0, none⟩,
    ⟨.bin .eql 3 false true (.v 1) (.k (.int .i64 0)), .push, none, false, 2, none⟩,
    ⟨.store 30 (.v 5) (.l 1), .none, none, false, 3, none⟩,
    ⟨.mv (.l 0), (.var 12), none, true, 4, none⟩]) (.reg [⟨.mv (.k (.bool true)), (.var 12), none, true, 0, none⟩]))) (.seq (.dreg 3 [0, 0, 0, 4, 0, 16, 48, 127, 255, 511, 511, 0, 3071, 8191] [⟨.call 14 [], .push, none, false, 0, (some 0)⟩,
    ⟨.load 30 (.v 5), .push, none, true, 1, none⟩,
    ⟨.bin .add 3 true false (.k (.int .i64 10)) (.v 1), .push, none, false, 3, none⟩,
    ⟨.conv 3 25 (.v 1), .push, none, false, 5, none⟩,
    ⟨.build 30 [(0, (.l 0))], .push, none, false, 6, none⟩,
    ⟨.call 7 [(.l 4), (.l 3), (.l 2), (.k (.sl 0 [] true)), (.l 0)], .push, none, false, 7, (some 1)⟩,
    ⟨.extract (.l 0) 0, .push, none, true, 9, none⟩,
    ⟨.extract (.l 1) 1, .push, none, true, 10, none⟩,
    ⟨.alloc 30, (.var 8), none, false, 11, (some 2)⟩,
    ⟨.store 30 (.v 8) (.l 1), .none, none, false, 12, none⟩,
    ⟨.mv (.l 0), (.var 6), none, true, 13, none⟩]) (.seq (.seq (.reg [⟨.bin .neq 33 false true (.v 6) (.k .nilIface), .push, none, false, 1, none⟩]) (.cond (.l 0) (.seq (.reg [⟨.mv (.k (.bool false)), (.var 14), none, true, 0, none⟩]) .ret) .skip)) (.seq (.reg [⟨.load 24 (.v 7), .push, none, true, 0, none⟩,
    ⟨.load 30 (.v 3), .push, none, true, 1, none⟩,
    ⟨.load 30 (.v 8), .push, none, true, 2, none⟩,
    ⟨.call 9 [(.l 2), (.l 1), (.l 0)], .push, none, false, 3, (some 0)⟩,
    ⟨.extract (.l 0) 0, .push, none, true, 5, none⟩,
    ⟨.extract (.l 1) 1, .push, none, true, 6, none⟩,
    ⟨.alloc 30, (.var 10), none, false, 7, (some 1)⟩,
    ⟨.store 30 (.v 10) (.l 1), .none, none, false, 8, none⟩,
    ⟨.mv (.l 0), (.var 9), none, true, 9, none⟩]) (.seq (.seq (.reg [⟨.bin .neq 3 false true (.v 9) (.k (.int .i64 0)), .push, none, false, 1, none⟩]) (.cond (.l 0) (.seq (.reg [⟨.mv (.k (.bool false)), (.var 14), none, true, 0, none⟩]) .ret) .skip)) (.seq (.reg [⟨.load 30 (.v 10), .push, none, true, 0, none⟩,
    ⟨.store 30 (.v 3) (.l 0), .none, none, false, 1, none⟩]) (.seq (.reg [⟨.conv 3 47 (.v 1), .push, none, false, 2, none⟩,
    ⟨.bin .shr 45 false false (.v 4) (.l 0), .push, none, false, 3, none⟩,
    ⟨.bin .and 45 false true (.l 0) (.k (.int .u16 1)), .push, none, false, 4, none⟩,
    ⟨.bin .eql 45 false true (.l 0) (.k (.int .u16 1)), .push, none, false, 5, none⟩,
    ⟨.fieldAddr 30 (.v 3) 3, .push, (some ((.l 0), true)), true, 7, none⟩,
    ⟨.load 27 (.l 0), .push, (some ((.l 1), true)), true, 8, none⟩,
    ⟨.len 27 (.l 0), .push, (some ((.l 2), true)), false, 9, none⟩,
    ⟨.bin .neq 3 false true (.l 0) (.k (.int .i64 1)), .push, (some ((.l 3), true)), false, 10, none⟩,
    ⟨.pick (.l 4) (.l 0) (.k (.bool false)), .push, none, true, 11, none⟩]) (.cond (.l 0) (.seq (.reg [⟨.mv (.k (.bool false)), (.var 14), none, true, 0, none⟩]) .ret) .skip)))))))))) (.reg [⟨.mv (.v 1), .push, none, true, 0, none⟩,
    ⟨.bin .add 3 false true (.l 0) (.k (.int .i64 1)), .push, none, false, 1, none⟩,
    ⟨.mv (.l 0), (.var 1), none, true, 2, none⟩])))))) (.seq (.dreg 3 [0, 0, 3, 7, 15, 15, 0, 95, 255] [⟨.call 14 [], .push, none, false, 0, (some 0)⟩,
    ⟨.load 30 (.v 3), .push, none, true, 1, none⟩,
    ⟨.call 10 [(.l 1), (.l 0)], .push, none, false, 2, (some 1)⟩,
    ⟨.extract (.l 0) 0, .push, none, true, 4, none⟩,
    ⟨.extract (.l 1) 1, .push, none, true, 5, none⟩,
    ⟨.alloc 30, (.var 13), none, false, 6, (some 2)⟩,
    ⟨.store 30 (.v 13) (.l 1), .none, none, false, 7, none⟩,
    ⟨.mv (.l 0), (.var 11), none, true, 8, none⟩]) (.seq (.reg [⟨.bin .eql 33 false true (.v 11) (.k .nilIface), .push, none, false, 1, none⟩,
    ⟨.mv (.v 12), .push, (some ((.l 0), true)), true, 3, none⟩,
    ⟨.un .not (.l 0), .push, (some ((.l 1), true)), false, 4, none⟩,
    ⟨.mv (.l 0), .push, (some ((.l 2), true)), true, 5, none⟩,
    ⟨.fieldAddr 30 (.v 3) 3, .push, (some ((.l 0), false)), true, 6, none⟩,
    ⟨.load 27 (.l 0), .push, (some ((.l 1), false)), true, 7, none⟩,
    ⟨.len 27 (.l 0), .push, (some ((.l 2), false)), false, 8, none⟩,
    ⟨.bin .eql 3 false true (.l 0) (.k (.int .i64 1)), .push, (some ((.l 3), false)), false, 9, none⟩,
    ⟨.pick (.l 4) (.k (.bool true)) (.l 0), .push, (some ((.l 7), true)), true, 10, none⟩,
    ⟨.pick (.l 8) (.l 0) (.k (.bool false)), .push, none, true, 11, none⟩,
    ⟨.fieldAddr 30 (.v 13) 0, .push, (some ((.l 0), true)), true, 13, none⟩,
    ⟨.load 25 (.l 0), .push, (some ((.l 1), true)), true, 14, none⟩,
    ⟨.mv (.v 2), .push, (some ((.l 2), true)), true, 15, none⟩,
    ⟨.bin .sub 3 false true (.l 0) (.k (.int .i64 1)), .push, (some ((.l 3), true)), false, 16, none⟩,
    ⟨.conv 3 25 (.l 0), .push, (some ((.l 4), true)), false, 17, none⟩,
    ⟨.bin .eql 25 false false (.l 3) (.l 0), .push, (some ((.l 5), true)), false, 18, none⟩,
    ⟨.pick (.l 6) (.l 0) (.k (.bool false)), .push, none, true, 19, none⟩,
    ⟨.mv (.l 0), (.var 14), none, true, 20, none⟩]) .ret))))))))), [.tmp (.v 14)]⟩
noncomputable def G4 (E : Env) : ZFn := ⟨102, [0, 9, 7, 6, 1, 10, 12, 5, 11, 14, 13, 16, 8, 15, 4], fun cy Y fuel =>
  (zSeq (zReg fun k => (zDst (.var 14) (vMv (.k (.bool false)))) k)
  (zSeq (zSeq (zReg fun k => (zStep E (cy Y) ⟨.call 6 [], .push, none, false, 0, (some 0)⟩) ((zDst .push (vNot (.l 0))) k))
  (zCond (.l 0) (zSeq (zReg fun k => (zDst (.var 14) (vMv (.k (.bool false)))) k)
  zRet) zSkip))
  (zSeq (zReg fun k => (zCall (cy Y) 14 [] .push) ((zCall (cy Y) 8 [(.l 0)] .push) ((zStep E (cy Y) ⟨.alloc 24, (.var 7), none, false, 2, (some 2)⟩) ((zStep E (cy Y) ⟨.store 24 (.v 7) (.l 0), .none, none, false, 3, none⟩) k))))
  (zSeq (zReg fun k => (zStep E (cy Y) ⟨.build 30 [], .push, none, false, 0, none⟩) ((zStep E (cy Y) ⟨.alloc 30, (.var 3), none, false, 1, (some 0)⟩) ((zStep E (cy Y) ⟨.store 30 (.v 3) (.l 0), .none, none, false, 2, none⟩) k)))
  (zSeq (zReg fun k => (zDst .push (vInt E (fGen .rem) .rem 5 false true (.v 0) (.k (.int .u8 8)))) ((zDst .push (vConv .i64 (.l 0))) ((zDst .push (vInt E fAdd .add 3 false true (.l 0) (.k (.int .i64 1)))) ((zDst (.var 2) (vMv (.l 0))) k))))
  (zSeq (zReg fun k => (zDst (.var 12) (vMv (.k (.bool true)))) k)
  (zSeq (zSeq (zReg fun k => (zDst (.var 1) (vMv (.k (.int .i64 0)))) k)
  (zBlock 0 (zLoop fuel (zSeq (zSeq (zReg fun k => (zDst .push (vInt E fLss .lss 3 false false (.v 1) (.v 2))) k)
  (zCond (.l 0) zSkip (zExit 0)))
  (zSeq (zBlock 1 (zSeq (zReg fun k => (zDstW .push (wLoad 5 true (.v 3))) ((zStep E (cy Y) ⟨.alloc 30, (.var 5), none, false, 1, (some 0)⟩) ((zStep E (cy Y) ⟨.store 30 (.v 5) (.l 0), .none, none, false, 2, none⟩) k)))
  (zSeq (zSeq (zReg fun k => (zDst .push (vConv .u64 (.v 1))) ((zDst .push (vBin E .shr 45 false false (.v 4) (.l 0))) ((zDst .push (vInt E (fGen .and) .and 45 false true (.l 0) (.k (.int .u16 1)))) ((zDst .push (vInt E fEql .eql 45 false true (.l 0) (.k (.int .u16 0)))) k))))
  (zCond (.l 0) (zReg fun k => (zStep E (cy Y) ⟨.build 30 [], .push, none, false, 0, none⟩) ((zDst .push (vInt E fEql .eql 3 false true (.v 1) (.k (.int .i64 0)))) ((zStep E (cy Y) ⟨.store 30 (.v 5) (.l 1), .none, none, false, 3, none⟩) ((zDst (.var 12) (vMv (.l 0))) k)))) (zReg fun k => (zDst (.var 12) (vMv (.k (.bool true)))) k)))
  (zSeq (zDreg 3 fun n0 k => (zCallD (cy Y) [0, 0, 0, 4, 0, 16, 48, 127, 255, 511, 511, 0, 3071, 8191] 0 14 [] .push) ((zDstWD [0, 0, 0, 4, 0, 16, 48, 127, 255, 511, 511, 0, 3071, 8191] 1 .push (wLoad 5 true (.v 5))) ((fun k sp => zDst .push (vInt E fAdd .add 3 true false (.k (.int .i64 10)) (.v 1)) (k sp)) ((fun k sp => zDst .push (vConv .u64 (.v 1)) (k sp)) ((zStepD E (cy Y) [0, 0, 0, 4, 0, 16, 48, 127, 255, 511, 511, 0, 3071, 8191] n0 ⟨.build 30 [(0, (.l 0))], .push, none, false, 6, none⟩) ((zStepD E (cy Y) [0, 0, 0, 4, 0, 16, 48, 127, 255, 511, 511, 0, 3071, 8191] n0 ⟨.call 7 [(.l 4), (.l 3), (.l 2), (.k (.sl 0 [] true)), (.l 0)], .push, none, false, 7, (some 1)⟩) ((fun k sp => zDst .push (vExtract 0 (.l 0)) (k sp)) ((fun k sp => zDst .push (vExtract 1 (.l 1)) (k sp)) ((zStepD E (cy Y) [0, 0, 0, 4, 0, 16, 48, 127, 255, 511, 511, 0, 3071, 8191] n0 ⟨.alloc 30, (.var 8), none, false, 11, (some 2)⟩) ((zStepD E (cy Y) [0, 0, 0, 4, 0, 16, 48, 127, 255, 511, 511, 0, 3071, 8191] n0 ⟨.store 30 (.v 8) (.l 1), .none, none, false, 12, none⟩) ((fun k sp => zDst (.var 6) (vMv (.l 0)) (k sp)) k)))))))))))
  (zSeq (zSeq (zReg fun k => (zDst .push (vInt E fNeq .neq 33 false true (.v 6) (.k .nilIface))) k)
  (zCond (.l 0) (zSeq (zReg fun k => (zDst (.var 14) (vMv (.k (.bool false)))) k)
  zRet) zSkip))
  (zSeq (zReg fun k => (zDstW .push (wLoad 2 true (.v 7))) ((zDstW .push (wLoad 5 true (.v 3))) ((zDstW .push (wLoad 5 true (.v 8))) ((zStep E (cy Y) ⟨.call 9 [(.l 2), (.l 1), (.l 0)], .push, none, false, 3, (some 0)⟩) ((zDst .push (vExtract 0 (.l 0))) ((zDst .push (vExtract 1 (.l 1))) ((zStep E (cy Y) ⟨.alloc 30, (.var 10), none, false, 7, (some 1)⟩) ((zStep E (cy Y) ⟨.store 30 (.v 10) (.l 1), .none, none, false, 8, none⟩) ((zDst (.var 9) (vMv (.l 0))) k)))))))))
  (zSeq (zSeq (zReg fun k => (zDst .push (vInt E fNeq .neq 3 false true (.v 9) (.k (.int .i64 0)))) k)
  (zCond (.l 0) (zSeq (zReg fun k => (zDst (.var 14) (vMv (.k (.bool false)))) k)
  zRet) zSkip))
  (zSeq (zReg fun k => (zDstW .push (wLoad 5 true (.v 10))) ((zStep E (cy Y) ⟨.store 30 (.v 3) (.l 0), .none, none, false, 1, none⟩) k))
  (zSeq (zReg fun k => (zDst .push (vConv .u64 (.v 1))) ((zDst .push (vBin E .shr 45 false false (.v 4) (.l 0))) ((zDst .push (vInt E (fGen .and) .and 45 false true (.l 0) (.k (.int .u16 1)))) ((zDst .push (vInt E fEql .eql 45 false true (.l 0) (.k (.int .u16 1)))) ((zG (.l 0) true .push (zDst .push (vFieldAddr 3 (.v 3)))) ((zG (.l 1) true .push (zDstW .push (wLoad 1 false (.l 0)))) ((zG (.l 2) true .push (zDst .push (vLenL (.l 0)))) ((zG (.l 3) true .push (zDst .push (vInt E fNeq .neq 3 false true (.l 0) (.k (.int .i64 1))))) ((zDst .push (vPick (.l 4) (.l 0) (.k (.bool false)))) k)))))))))
  (zCond (.l 0) (zSeq (zReg fun k => (zDst (.var 14) (vMv (.k (.bool false)))) k)
  zRet) zSkip))))))))))
  (zReg fun k => (zDst .push (vMv (.v 1))) ((zDst .push (vInt E fAdd .add 3 false true (.l 0) (.k (.int .i64 1)))) ((zDst (.var 1) (vMv (.l 0))) k))))))))
  (zSeq (zDreg 3 fun n0 k => (zCallD (cy Y) [0, 0, 3, 7, 15, 15, 0, 95, 255] 0 14 [] .push) ((zDstWD [0, 0, 3, 7, 15, 15, 0, 95, 255] 1 .push (wLoad 5 true (.v 3))) ((zStepD E (cy Y) [0, 0, 3, 7, 15, 15, 0, 95, 255] n0 ⟨.call 10 [(.l 1), (.l 0)], .push, none, false, 2, (some 1)⟩) ((fun k sp => zDst .push (vExtract 0 (.l 0)) (k sp)) ((fun k sp => zDst .push (vExtract 1 (.l 1)) (k sp)) ((zStepD E (cy Y) [0, 0, 3, 7, 15, 15, 0, 95, 255] n0 ⟨.alloc 30, (.var 13), none, false, 6, (some 2)⟩) ((zStepD E (cy Y) [0, 0, 3, 7, 15, 15, 0, 95, 255] n0 ⟨.store 30 (.v 13) (.l 1), .none, none, false, 7, none⟩) ((fun k sp => zDst (.var 11) (vMv (.l 0)) (k sp)) k))))))))
  (zSeq (zReg fun k => (zDst .push (vInt E fEql .eql 33 false true (.v 11) (.k .nilIface))) ((zG (.l 0) true .push (zDst .push (vMv (.v 12)))) ((zG (.l 1) true .push (zDst .push (vNot (.l 0)))) ((zG (.l 2) true .push (zDst .push (vMv (.l 0)))) ((zG (.l 0) false .push (zDst .push (vFieldAddr 3 (.v 3)))) ((zG (.l 1) false .push (zDstW .push (wLoad 1 false (.l 0)))) ((zG (.l 2) false .push (zDst .push (vLenL (.l 0)))) ((zG (.l 3) false .push (zDst .push (vInt E fEql .eql 3 false true (.l 0) (.k (.int .i64 1))))) ((zG (.l 7) true .push (zDst .push (vPick (.l 4) (.k (.bool true)) (.l 0)))) ((zDst .push (vPick (.l 8) (.l 0) (.k (.bool false)))) ((zG (.l 0) true .push (zDst .push (vFieldAddr 0 (.v 13)))) ((zG (.l 1) true .push (zDstW .push (wLoad 1 false (.l 0)))) ((zG (.l 2) true .push (zDst .push (vMv (.v 2)))) ((zG (.l 3) true .push (zDst .push (vInt E fSub .sub 3 false true (.l 0) (.k (.int .i64 1))))) ((zG (.l 4) true .push (zDst .push (vConv .u64 (.l 0)))) ((zG (.l 5) true .push (zDst .push (vInt E fEql .eql 25 false false (.l 3) (.l 0)))) ((zDst .push (vPick (.l 6) (.l 0) (.k (.bool false)))) ((zDst (.var 14) (vMv (.l 0))) k))))))))))))))))))
  zRet))))))))), [.tmp (.v 14)]⟩
theorem G4_ok (fn : Nat → Option Func) (pu : Nat → Bool) (pr : Nat → List AV → Option (Heap → Option (Eff × Acc))) : ZOk ⟨Tryz.tyT, fn, pu, pr⟩ npT F4 (G4 ⟨Tryz.tyT, fn, pu, pr⟩) := ⟨rfl, rfl, rfl, fun cy Y k => by kernel_rfl⟩
noncomputable def F6 : FFn := ⟨100, [1, 2, 4, 3, 6, 7, 9, 8, 0], (.seq (.reg [⟨.mv (.k (.bool false)), (.var 8), none, true, 0, none⟩]) (.seq (.reg [⟨.call 14 [], .push, none, false, 0, (some 0)⟩,
    ⟨.build 30 [], .push, none, false, 1, none⟩,
    ⟨.build 30 [(0, (.k (.int .u64 3)))], .push, none, false, 2, none⟩,
    ⟨.call 7 [(.l 2), (.l 1), (.k (.int .i64 5)), (.k (.sl 0 [] true)), (.l 0)], .push, none, false, 3, (some 1)⟩,
    ⟨.extract (.l 0) 0, .push, none, true, 5, none⟩,
    ⟨.extract (.l 1) 1, .push, none, true, 6, none⟩,
    ⟨.alloc 30, (.var 0), none, false, 7, (some 2)⟩,
    ⟨.store 30 (.v 0) (.l 1), .none, none, false, 8, none⟩,
    ⟨.mv (.l 0), (.var 1), none, true, 9, none⟩]) (.seq (.dreg 6 [0, 0, 0, 4, 12, 28, 60, 124, 0, 511, 1023, 2047, 2047, 0, 12287, 32767] [⟨.call 14 [], .push, none, false, 0, (some 0)⟩,
    ⟨.load 30 (.v 0), .push, none, true, 1, none⟩,
    ⟨.build 57 [(0, (.k (.int .i64 5))), (1, (.k (.int .u64 1)))], .push, none, false, 2, none⟩,
    ⟨.buildSlice 58 1 [(0, (.l 0))], .push, none, false, 3, (some 1)⟩,
    ⟨.buildSlice 27 1 [(0, (.l 0))], .push, none, false, 4, (some 2)⟩,
    ⟨.build 30 [(3, (.l 0))], .push, none, false, 5, none⟩,
    ⟨.build 55 [(0, (.k (.str [99, 107]))), (1, (.l 0))], .push, none, false, 6, none⟩,
    ⟨.buildSlice 50 1 [(0, (.l 0))], .push, none, false, 7, (some 3)⟩,
    ⟨.build 30 [(0, (.k (.int .u64 1)))], .push, none, false, 8, none⟩,
    ⟨.call 7 [(.l 8), (.l 7), (.k (.int .i64 6)), (.l 1), (.l 0)], .push, none, false, 9, (some 4)⟩,
    ⟨.extract (.l 0) 0, .push, none, true, 11, none⟩,
    ⟨.extract (.l 1) 1, .push, none, true, 12, none⟩,
    ⟨.alloc 30, (.var 3), none, false, 13, (some 5)⟩,
    ⟨.store 30 (.v 3) (.l 1), .none, none, false, 14, none⟩,
    ⟨.mv (.l 0), (.var 2), none, true, 15, none⟩]) (.seq (.dreg 3 [0, 0, 0, 7, 15, 31, 31, 0, 191, 511] [⟨.call 14 [], .push, none, false, 0, (some 0)⟩,
    ⟨.load 30 (.v 0), .push, none, true, 1, none⟩,
    ⟨.build 30 [(0, (.k (.int .u64 1)))], .push, none, false, 2, none⟩,
    ⟨.call 7 [(.l 2), (.l 1), (.k (.int .i64 (-1))), (.k (.sl 0 [] true)), (.l 0)], .push, none, false, 3, (some 1)⟩,
    ⟨.extract (.l 0) 0, .push, none, true, 5, none⟩,
    ⟨.extract (.l 1) 1, .push, none, true, 6, none⟩,
    ⟨.alloc 30, .push, none, false, 7, (some 2)⟩,
    ⟨.store 30 (.l 0) (.l 2), .none, none, false, 8, none⟩,
    ⟨.mv (.l 1), (.var 4), none, true, 9, none⟩]) (.seq (.seq (.reg [⟨.bin .neq 33 false true (.v 1) (.k .nilIface), .push, none, false, 1, none⟩,
    ⟨.mv (.v 2), .push, (some ((.l 0), false)), true, 3, none⟩,
    ⟨.bin .neq 33 false true (.l 0) (.k .nilIface), .push, (some ((.l 1), false)), false, 4, none⟩,
    ⟨.pick (.l 2) (.k (.bool true)) (.l 0), .push, none, true, 5, none⟩,
    ⟨.fieldAddr 30 (.v 0) 4, .push, (some ((.l 0), false)), true, 7, none⟩,
    ⟨.load 28 (.l 0), .push, (some ((.l 1), false)), true, 8, none⟩,
    ⟨.len 28 (.l 0), .push, (some ((.l 2), false)), false, 9, none⟩,
    ⟨.bin .neq 3 false true (.l 0) (.k (.int .i64 1)), .push, (some ((.l 3), false)), false, 10, none⟩,
    ⟨.pick (.l 4) (.k (.bool true)) (.l 0), .push, none, true, 11, none⟩,
    ⟨.fieldAddr 30 (.v 3) 4, .push, (some ((.l 0), false)), true, 13, none⟩,
    ⟨.load 28 (.l 0), .push, (some ((.l 1), false)), true, 14, none⟩,
    ⟨.len 28 (.l 0), .push, (some ((.l 2), false)), false, 15, none⟩,
    ⟨.bin .neq 3 false true (.l 0) (.k (.int .i64 1)), .push, (some ((.l 3), false)), false, 16, none⟩,
    ⟨.pick (.l 4) (.k (.bool true)) (.l 0), .push, none, true, 17, none⟩]) (.cond (.l 0) (.seq (.reg [⟨.mv (.k (.bool false)), (.var 8), none, true, 0, none⟩]) .ret) .skip)) (.seq (.reg [⟨.load 30 (.v 3), .push, none, true, 0, none⟩,
    ⟨.call 16 [(.l 0)], .push, none, false, 1, (some 0)⟩,
    ⟨.mv (.l 0), (.var 5), none, true, 2, none⟩]) (.seq (.dreg 3 [0, 0, 3, 7, 15, 15, 0, 95, 255] [⟨.call 14 [], .push, none, false, 0, (some 0)⟩,
    ⟨.load 30 (.v 3), .push, none, true, 1, none⟩,
    ⟨.call 10 [(.l 1), (.l 0)], .push, none, false, 2, (some 1)⟩,
    ⟨.extract (.l 0) 0, .push, none, true, 4, none⟩,
    ⟨.extract (.l 1) 1, .push, none, true, 5, none⟩,
    ⟨.alloc 30, (.var 7), none, false, 6, (some 2)⟩,
    ⟨.store 30 (.v 7) (.l 1), .none, none, false, 7, none⟩,
    ⟨.mv (.l 0), (.var 6), none, true, 8, none⟩]) (.seq (.dreg 5 [0, 1, 3, 7, 15, 31, 31, 127, 255, 511, 1023, 2047, 4095, 8191, 16383, 32767, 65535, 131071, 262143, 524287, 1048575, 2097151, 4194303, 8388607, 16777215, 33554431, 67108863, 134217727, 268435455, 536870911, 1073741823, 2147483647, 4294967295, 2147483647, 2147483647, 34359738367, 68719476735, 137438953471] [⟨.load 30 (.v 3), .push, none, true, 0, none⟩,
    ⟨.call 18 [(.l 0)], .push, none, false, 1, (some 0)⟩,
    ⟨.len 58 (.l 0), .push, none, false, 2, none⟩,
    ⟨.bin .eql 3 false true (.l 0) (.k (.int .i64 2)), .push, none, false, 3, none⟩,
    ⟨.mv (.v 4), .push, (some ((.l 0), true)), true, 5, none⟩,
    ⟨.mkIface 62 (.k (.int .i64 14)), .push, (some ((.l 1), true)), false, 6, none⟩,
    ⟨.call 19 [(.l 1), (.l 0)], .push, (some ((.l 2), true)), false, 7, (some 1)⟩,
    ⟨.pick (.l 3) (.l 0) (.k (.bool false)), .push, none, true, 8, none⟩,
    ⟨.mv (.v 5), .push, (some ((.l 0), true)), true, 10, none⟩,
    ⟨.len 50 (.l 0), .push, (some ((.l 1), true)), false, 11, none⟩,
    ⟨.bin .eql 3 false true (.l 0) (.k (.int .i64 1)), .push, (some ((.l 2), true)), false, 12, none⟩,
    ⟨.pick (.l 3) (.l 0) (.k (.bool false)), .push, none, true, 13, none⟩,
    ⟨.mv (.v 5), .push, (some ((.l 0), true)), true, 15, none⟩,
    ⟨.indexAddr 50 (.l 0) (.k (.int .i64 0)), .push, (some ((.l 1), true)), true, 16, none⟩,
    ⟨.fieldAddr 55 (.l 0) 0, .push, (some ((.l 2), true)), true, 17, none⟩,
    ⟨.load 9 (.l 0), .push, (some ((.l 3), true)), true, 18, none⟩,
    ⟨.bin .eql 9 false true (.l 0) (.k (.str [99, 107])), .push, (some ((.l 4), true)), false, 19, none⟩,
    ⟨.pick (.l 5) (.l 0) (.k (.bool false)), .push, none, true, 20, none⟩,
    ⟨.mv (.v 6), .push, (some ((.l 0), true)), true, 22, none⟩,
    ⟨.bin .eql 33 false true (.l 0) (.k .nilIface), .push, (some ((.l 1), true)), false, 23, none⟩,
    ⟨.pick (.l 2) (.l 0) (.k (.bool false)), .push, none, true, 24, none⟩,
    ⟨.fieldAddr 30 (.v 7) 0, .push, (some ((.l 0), true)), true, 26, none⟩,
    ⟨.load 25 (.l 0), .push, (some ((.l 1), true)), true, 27, none⟩,
    ⟨.bin .eql 25 false true (.l 0) (.k (.int .u64 1)), .push, (some ((.l 2), true)), false, 28, none⟩,
    ⟨.pick (.l 3) (.l 0) (.k (.bool false)), .push, none, true, 29, none⟩,
    ⟨.call 14 [], .push, (some ((.l 0), true)), false, 31, (some 2)⟩,
    ⟨.call 8 [(.l 0)], .push, (some ((.l 1), true)), false, 32, (some 3)⟩,
    ⟨.load 30 (.v 0), .push, (some ((.l 2), true)), true, 33, none⟩,
    ⟨.load 30 (.v 3), .push, (some ((.l 3), true)), true, 34, none⟩,
    ⟨.call 20 [(.l 2), (.l 1), (.l 0)], .push, (some ((.l 4), true)), false, 35, (some 4)⟩,
    ⟨.pick (.l 5) (.l 0) (.k (.bool false)), .push, none, true, 36, none⟩,
    ⟨.mv (.l 0), (.var 8), none, true, 37, none⟩]) .ret)))))))), [.tmp (.v 8)]⟩
noncomputable def G6 (E : Env) : ZFn := ⟨100, [1, 2, 4, 3, 6, 7, 9, 8, 0], fun cy Y fuel =>
  (zSeq (zReg fun k => (zDst (.var 8) (vMv (.k (.bool false)))) k)
  (zSeq (zReg fun k => (zCall (cy Y) 14 [] .push) ((zStep E (cy Y) ⟨.build 30 [], .push, none, false, 1, none⟩) ((zStep E (cy Y) ⟨.build 30 [(0, (.k (.int .u64 3)))], .push, none, false, 2, none⟩) ((zStep E (cy Y) ⟨.call 7 [(.l 2), (.l 1), (.k (.int .i64 5)), (.k (.sl 0 [] true)), (.l 0)], .push, none, false, 3, (some 1)⟩) ((zDst .push (vExtract 0 (.l 0))) ((zDst .push (vExtract 1 (.l 1))) ((zStep E (cy Y) ⟨.alloc 30, (.var 0), none, false, 7, (some 2)⟩) ((zStep E (cy Y) ⟨.store 30 (.v 0) (.l 1), .none, none, false, 8, none⟩) ((zDst (.var 1) (vMv (.l 0))) k)))))))))
  (zSeq (zDreg 6 fun n0 k => (zCallD (cy Y) [0, 0, 0, 4, 12, 28, 60, 124, 0, 511, 1023, 2047, 2047, 0, 12287, 32767] 0 14 [] .push) ((zDstWD [0, 0, 0, 4, 12, 28, 60, 124, 0, 511, 1023, 2047, 2047, 0, 12287, 32767] 1 .push (wLoad 5 true (.v 0))) ((zStepD E (cy Y) [0, 0, 0, 4, 12, 28, 60, 124, 0, 511, 1023, 2047, 2047, 0, 12287, 32767] n0 ⟨.build 57 [(0, (.k (.int .i64 5))), (1, (.k (.int .u64 1)))], .push, none, false, 2, none⟩) ((zStepD E (cy Y) [0, 0, 0, 4, 12, 28, 60, 124, 0, 511, 1023, 2047, 2047, 0, 12287, 32767] n0 ⟨.buildSlice 58 1 [(0, (.l 0))], .push, none, false, 3, (some 1)⟩) ((zStepD E (cy Y) [0, 0, 0, 4, 12, 28, 60, 124, 0, 511, 1023, 2047, 2047, 0, 12287, 32767] n0 ⟨.buildSlice 27 1 [(0, (.l 0))], .push, none, false, 4, (some 2)⟩) ((zStepD E (cy Y) [0, 0, 0, 4, 12, 28, 60, 124, 0, 511, 1023, 2047, 2047, 0, 12287, 32767] n0 ⟨.build 30 [(3, (.l 0))], .push, none, false, 5, none⟩) ((zStepD E (cy Y) [0, 0, 0, 4, 12, 28, 60, 124, 0, 511, 1023, 2047, 2047, 0, 12287, 32767] n0 ⟨.build 55 [(0, (.k (.str [99, 107]))), (1, (.l 0))], .push, none, false, 6, none⟩) ((zStepD E (cy Y) [0, 0, 0, 4, 12, 28, 60, 124, 0, 511, 1023, 2047, 2047, 0, 12287, 32767] n0 ⟨.buildSlice 50 1 [(0, (.l 0))], .push, none, false, 7, (some 3)⟩) ((zStepD E (cy Y) [0, 0, 0, 4, 12, 28, 60, 124, 0, 511, 1023, 2047, 2047, 0, 12287, 32767] n0 ⟨.build 30 [(0, (.k (.int .u64 1)))], .push, none, false, 8, none⟩) ((zStepD E (cy Y) [0, 0, 0, 4, 12, 28, 60, 124, 0, 511, 1023, 2047, 2047, 0, 12287, 32767] n0 ⟨.call 7 [(.l 8), (.l 7), (.k (.int .i64 6)), (.l 1), (.l 0)], .push, none, false, 9, (some 4)⟩) ((fun k sp => zDst .push (vExtract 0 (.l 0)) (k sp)) ((fun k sp => zDst .push (vExtract 1 (.l 1)) (k sp)) ((zStepD E (cy Y) [0, 0, 0, 4, 12, 28, 60, 124, 0, 511, 1023, 2047, 2047, 0, 12287, 32767] n0 ⟨.alloc 30, (.var 3), none, false, 13, (some 5)⟩) ((zStepD E (cy Y) [0, 0, 0, 4, 12, 28, 60, 124, 0, 511, 1023, 2047, 2047, 0, 12287, 32767] n0 ⟨.store 30 (.v 3) (.l 1), .none, none, false, 14, none⟩) ((fun k sp => zDst (.var 2) (vMv (.l 0)) (k sp)) k)))))))))))))))
  (zSeq (zDreg 3 fun n0 k => (zCallD (cy Y) [0, 0, 0, 7, 15, 31, 31, 0, 191, 511] 0 14 [] .push) ((zDstWD [0, 0, 0, 7, 15, 31, 31, 0, 191, 511] 1 .push (wLoad 5 true (.v 0))) ((zStepD E (cy Y) [0, 0, 0, 7, 15, 31, 31, 0, 191, 511] n0 ⟨.build 30 [(0, (.k (.int .u64 1)))], .push, none, false, 2, none⟩) ((zStepD E (cy Y) [0, 0, 0, 7, 15, 31, 31, 0, 191, 511] n0 ⟨.call 7 [(.l 2), (.l 1), (.k (.int .i64 (-1))), (.k (.sl 0 [] true)), (.l 0)], .push, none, false, 3, (some 1)⟩) ((fun k sp => zDst .push (vExtract 0 (.l 0)) (k sp)) ((fun k sp => zDst .push (vExtract 1 (.l 1)) (k sp)) ((zStepD E (cy Y) [0, 0, 0, 7, 15, 31, 31, 0, 191, 511] n0 ⟨.alloc 30, .push, none, false, 7, (some 2)⟩) ((zStepD E (cy Y) [0, 0, 0, 7, 15, 31, 31, 0, 191, 511] n0 ⟨.store 30 (.l 0) (.l 2), .none, none, false, 8, none⟩) ((fun k sp => zDst (.var 4) (vMv (.l 1)) (k sp)) k)))))))))
  (zSeq (zSeq (zReg fun k => (zDst .push (vInt E fNeq .neq 33 false true (.v 1) (.k .nilIface))) ((zG (.l 0) false .push (zDst .push (vMv (.v 2)))) ((zG (.l 1) false .push (zDst .push (vInt E fNeq .neq 33 false true (.l 0) (.k .nilIface)))) ((zDst .push (vPick (.l 2) (.k (.bool true)) (.l 0))) ((zG (.l 0) false .push (zDst .push (vFieldAddr 4 (.v 0)))) ((zG (.l 1) false .push (zDstW .push (wLoad 1 false (.l 0)))) ((zG (.l 2) false .push (zDst .push (vLenL (.l 0)))) ((zG (.l 3) false .push (zDst .push (vInt E fNeq .neq 3 false true (.l 0) (.k (.int .i64 1))))) ((zDst .push (vPick (.l 4) (.k (.bool true)) (.l 0))) ((zG (.l 0) false .push (zDst .push (vFieldAddr 4 (.v 3)))) ((zG (.l 1) false .push (zDstW .push (wLoad 1 false (.l 0)))) ((zG (.l 2) false .push (zDst .push (vLenL (.l 0)))) ((zG (.l 3) false .push (zDst .push (vInt E fNeq .neq 3 false true (.l 0) (.k (.int .i64 1))))) ((zDst .push (vPick (.l 4) (.k (.bool true)) (.l 0))) k))))))))))))))
  (zCond (.l 0) (zSeq (zReg fun k => (zDst (.var 8) (vMv (.k (.bool false)))) k)
  zRet) zSkip))
  (zSeq (zReg fun k => (zDstW .push (wLoad 5 true (.v 3))) ((zCall (cy Y) 16 [(.l 0)] .push) ((zDst (.var 5) (vMv (.l 0))) k)))
  (zSeq (zDreg 3 fun n0 k => (zCallD (cy Y) [0, 0, 3, 7, 15, 15, 0, 95, 255] 0 14 [] .push) ((zDstWD [0, 0, 3, 7, 15, 15, 0, 95, 255] 1 .push (wLoad 5 true (.v 3))) ((zStepD E (cy Y) [0, 0, 3, 7, 15, 15, 0, 95, 255] n0 ⟨.call 10 [(.l 1), (.l 0)], .push, none, false, 2, (some 1)⟩) ((fun k sp => zDst .push (vExtract 0 (.l 0)) (k sp)) ((fun k sp => zDst .push (vExtract 1 (.l 1)) (k sp)) ((zStepD E (cy Y) [0, 0, 3, 7, 15, 15, 0, 95, 255] n0 ⟨.alloc 30, (.var 7), none, false, 6, (some 2)⟩) ((zStepD E (cy Y) [0, 0, 3, 7, 15, 15, 0, 95, 255] n0 ⟨.store 30 (.v 7) (.l 1), .none, none, false, 7, none⟩) ((fun k sp => zDst (.var 6) (vMv (.l 0)) (k sp)) k))))))))
  (zSeq (zDreg 5 fun n0 k => (zDstWD [0, 1, 3, 7, 15, 31, 31, 127, 255, 511, 1023, 2047, 4095, 8191, 16383, 32767, 65535, 131071, 262143, 524287, 1048575, 2097151, 4194303, 8388607, 16777215, 33554431, 67108863, 134217727, 268435455, 536870911, 1073741823, 2147483647, 4294967295, 2147483647, 2147483647, 34359738367, 68719476735, 137438953471] 0 .push (wLoad 5 true (.v 3))) ((zCallD (cy Y) [0, 1, 3, 7, 15, 31, 31, 127, 255, 511, 1023, 2047, 4095, 8191, 16383, 32767, 65535, 131071, 262143, 524287, 1048575, 2097151, 4194303, 8388607, 16777215, 33554431, 67108863, 134217727, 268435455, 536870911, 1073741823, 2147483647, 4294967295, 2147483647, 2147483647, 34359738367, 68719476735, 137438953471] 1 18 [(.l 0)] .push) ((fun k sp => zDst .push (vLenL (.l 0)) (k sp)) ((fun k sp => zDst .push (vInt E fEql .eql 3 false true (.l 0) (.k (.int .i64 2))) (k sp)) ((zGD (.l 0) true .push (fun k sp => zDst .push (vMv (.v 4)) (k sp))) ((zGD (.l 1) true .push (zStepD E (cy Y) [0, 1, 3, 7, 15, 31, 31, 127, 255, 511, 1023, 2047, 4095, 8191, 16383, 32767, 65535, 131071, 262143, 524287, 1048575, 2097151, 4194303, 8388607, 16777215, 33554431, 67108863, 134217727, 268435455, 536870911, 1073741823, 2147483647, 4294967295, 2147483647, 2147483647, 34359738367, 68719476735, 137438953471] n0 ⟨.mkIface 62 (.k (.int .i64 14)), .push, none, false, 6, none⟩)) ((zGD (.l 2) true .push (zStepD E (cy Y) [0, 1, 3, 7, 15, 31, 31, 127, 255, 511, 1023, 2047, 4095, 8191, 16383, 32767, 65535, 131071, 262143, 524287, 1048575, 2097151, 4194303, 8388607, 16777215, 33554431, 67108863, 134217727, 268435455, 536870911, 1073741823, 2147483647, 4294967295, 2147483647, 2147483647, 34359738367, 68719476735, 137438953471] n0 ⟨.call 19 [(.l 1), (.l 0)], .push, none, false, 7, (some 1)⟩)) ((fun k sp => zDst .push (vPick (.l 3) (.l 0) (.k (.bool false))) (k sp)) ((zGD (.l 0) true .push (fun k sp => zDst .push (vMv (.v 5)) (k sp))) ((zGD (.l 1) true .push (fun k sp => zDst .push (vLenL (.l 0)) (k sp))) ((zGD (.l 2) true .push (fun k sp => zDst .push (vInt E fEql .eql 3 false true (.l 0) (.k (.int .i64 1))) (k sp))) ((fun k sp => zDst .push (vPick (.l 3) (.l 0) (.k (.bool false))) (k sp)) ((zGD (.l 0) true .push (fun k sp => zDst .push (vMv (.v 5)) (k sp))) ((zGD (.l 1) true .push (fun k sp => zDst .push (vIndexAddr 6 (.l 0) (.k (.int .i64 0))) (k sp))) ((zGD (.l 2) true .push (fun k sp => zDst .push (vFieldAddr 0 (.l 0)) (k sp))) ((zGD (.l 3) true .push (zDstWD [0, 1, 3, 7, 15, 31, 31, 127, 255, 511, 1023, 2047, 4095, 8191, 16383, 32767, 65535, 131071, 262143, 524287, 1048575, 2097151, 4194303, 8388607, 16777215, 33554431, 67108863, 134217727, 268435455, 536870911, 1073741823, 2147483647, 4294967295, 2147483647, 2147483647, 34359738367, 68719476735, 137438953471] 18 .push (wLoad 1 false (.l 0)))) ((zGD (.l 4) true .push (fun k sp => zDst .push (vInt E fEql .eql 9 false true (.l 0) (.k (.str [99, 107]))) (k sp))) ((fun k sp => zDst .push (vPick (.l 5) (.l 0) (.k (.bool false))) (k sp)) ((zGD (.l 0) true .push (fun k sp => zDst .push (vMv (.v 6)) (k sp))) ((zGD (.l 1) true .push (fun k sp => zDst .push (vInt E fEql .eql 33 false true (.l 0) (.k .nilIface)) (k sp))) ((fun k sp => zDst .push (vPick (.l 2) (.l 0) (.k (.bool false))) (k sp)) ((zGD (.l 0) true .push (fun k sp => zDst .push (vFieldAddr 0 (.v 7)) (k sp))) ((zGD (.l 1) true .push (zDstWD [0, 1, 3, 7, 15, 31, 31, 127, 255, 511, 1023, 2047, 4095, 8191, 16383, 32767, 65535, 131071, 262143, 524287, 1048575, 2097151, 4194303, 8388607, 16777215, 33554431, 67108863, 134217727, 268435455, 536870911, 1073741823, 2147483647, 4294967295, 2147483647, 2147483647, 34359738367, 68719476735, 137438953471] 27 .push (wLoad 1 false (.l 0)))) ((zGD (.l 2) true .push (fun k sp => zDst .push (vInt E fEql .eql 25 false true (.l 0) (.k (.int .u64 1))) (k sp))) ((fun k sp => zDst .push (vPick (.l 3) (.l 0) (.k (.bool false))) (k sp)) ((zGD (.l 0) true .push (zCallD (cy Y) [0, 1, 3, 7, 15, 31, 31, 127, 255, 511, 1023, 2047, 4095, 8191, 16383, 32767, 65535, 131071, 262143, 524287, 1048575, 2097151, 4194303, 8388607, 16777215, 33554431, 67108863, 134217727, 268435455, 536870911, 1073741823, 2147483647, 4294967295, 2147483647, 2147483647, 34359738367, 68719476735, 137438953471] 31 14 [] .push)) ((zGD (.l 1) true .push (zCallD (cy Y) [0, 1, 3, 7, 15, 31, 31, 127, 255, 511, 1023, 2047, 4095, 8191, 16383, 32767, 65535, 131071, 262143, 524287, 1048575, 2097151, 4194303, 8388607, 16777215, 33554431, 67108863, 134217727, 268435455, 536870911, 1073741823, 2147483647, 4294967295, 2147483647, 2147483647, 34359738367, 68719476735, 137438953471] 32 8 [(.l 0)] .push)) ((zGD (.l 2) true .push (zDstWD [0, 1, 3, 7, 15, 31, 31, 127, 255, 511, 1023, 2047, 4095, 8191, 16383, 32767, 65535, 131071, 262143, 524287, 1048575, 2097151, 4194303, 8388607, 16777215, 33554431, 67108863, 134217727, 268435455, 536870911, 1073741823, 2147483647, 4294967295, 2147483647, 2147483647, 34359738367, 68719476735, 137438953471] 33 .push (wLoad 5 true (.v 0)))) ((zGD (.l 3) true .push (zDstWD [0, 1, 3, 7, 15, 31, 31, 127, 255, 511, 1023, 2047, 4095, 8191, 16383, 32767, 65535, 131071, 262143, 524287, 1048575, 2097151, 4194303, 8388607, 16777215, 33554431, 67108863, 134217727, 268435455, 536870911, 1073741823, 2147483647, 4294967295, 2147483647, 2147483647, 34359738367, 68719476735, 137438953471] 34 .push (wLoad 5 true (.v 3)))) ((zGD (.l 4) true .push (zCallD (cy Y) [0, 1, 3, 7, 15, 31, 31, 127, 255, 511, 1023, 2047, 4095, 8191, 16383, 32767, 65535, 131071, 262143, 524287, 1048575, 2097151, 4194303, 8388607, 16777215, 33554431, 67108863, 134217727, 268435455, 536870911, 1073741823, 2147483647, 4294967295, 2147483647, 2147483647, 34359738367, 68719476735, 137438953471] 35 20 [(.l 2), (.l 1), (.l 0)] .push)) ((fun k sp => zDst .push (vPick (.l 5) (.l 0) (.k (.bool false))) (k sp)) ((fun k sp => zDst (.var 8) (vMv (.l 0)) (k sp)) k))))))))))))))))))))))))))))))))
  zRet)))))))), [.tmp (.v 8)]⟩
theorem G6_ok (fn : Nat → Option Func) (pu : Nat → Bool) (pr : Nat → List AV → Option (Heap → Option (Eff × Acc))) : ZOk ⟨Tryz.tyT, fn, pu, pr⟩ npT F6 (G6 ⟨Tryz.tyT, fn, pu, pr⟩) := ⟨rfl, rfl, rfl, fun cy Y k => by kernel_rfl⟩
noncomputable def F7 : FFn := ⟨87, [0, 1, 4, 5, 6, 9, 2, 3, 10, 12, 13, 14, 11], (.seq (.reg [⟨.box 24 (.v 0), (.var 3), none, false, 0, (some 0)⟩,
    ⟨.box 30 (.v 1), (.var 4), none, false, 1, (some 1)⟩,
    ⟨.box 30 (.v 2), (.var 5), none, false, 2, (some 2)⟩,
    ⟨.alloc 30, (.var 8), none, false, 3, (some 3)⟩,
    ⟨.mv (.k .nilIface), (.var 12), none, true, 4, none⟩]) (.seq (.seq (.dreg 4 [0, 1, 0, 7, 15, 31, 63, 63, 255, 511, 1023, 2047, 4095, 8191, 16383, 32767, 65535, 131071, 262143, 524287, 1048575, 2097151, 4194303, 8388607] [⟨.load 24 (.v 3), .push, none, true, 0, none⟩,
    ⟨.call 22 [(.l 0)], .push, none, false, 1, (some 0)⟩,
    ⟨.load 30 (.v 4), .push, none, true, 2, none⟩,
    ⟨.call 21 [(.l 1), (.l 0)], .push, none, false, 3, (some 1)⟩,
    ⟨.un .not (.l 0), .push, none, false, 4, none⟩,
    ⟨.load 24 (.v 3), .push, (some ((.l 0), false)), true, 6, none⟩,
    ⟨.load 30 (.v 5), .push, (some ((.l 1), false)), true, 7, none⟩,
    ⟨.call 21 [(.l 1), (.l 0)], .push, (some ((.l 2), false)), false, 8, (some 2)⟩,
    ⟨.un .not (.l 0), .push, (some ((.l 3), false)), false, 9, none⟩,
    ⟨.pick (.l 4) (.k (.bool true)) (.l 0), .push, none, true, 10, none⟩,
    ⟨.mv (.v 6), .push, (some ((.l 0), false)), true, 12, none⟩,
    ⟨.bin .lss 3 false true (.l 0) (.k (.int .i64 0)), .push, (some ((.l 1), false)), false, 13, none⟩,
    ⟨.pick (.l 2) (.k (.bool true)) (.l 0), .push, none, true, 14, none⟩,
    ⟨.mv (.v 6), .push, (some ((.l 0), false)), true, 16, none⟩,
    ⟨.bin .gtr 3 false true (.l 0) (.k (.int .i64 1000000)), .push, (some ((.l 1), false)), false, 17, none⟩,
    ⟨.pick (.l 2) (.k (.bool true)) (.l 0), .push, none, true, 18, none⟩,
    ⟨.mv (.v 7), .push, (some ((.l 0), false)), true, 20, none⟩,
    ⟨.call 23 [(.l 0)], .push, (some ((.l 1), false)), false, 21, (some 3)⟩,
    ⟨.un .not (.l 0), .push, (some ((.l 2), false)), false, 22, none⟩,
    ⟨.pick (.l 3) (.k (.bool true)) (.l 0), .push, none, true, 23, none⟩]) (.cond (.l 0) (.seq (.reg [⟨.build 30 [], .push, none, false, 0, none⟩,
    ⟨.mkIface 62 (.k (.int .i64 14)), .push, none, false, 1, none⟩,
    ⟨.store 30 (.v 8) (.l 1), .none, none, false, 2, none⟩,
    ⟨.mv (.l 0), (.var 12), none, true, 3, none⟩]) .ret) .skip)) (.seq (.reg [⟨.load 30 (.v 4), .push, none, true, 0, none⟩,
    ⟨.call 18 [(.l 0)], .push, none, false, 1, (some 0)⟩,
    ⟨.mv (.l 0), (.var 9), none, true, 2, none⟩]) (.seq (.reg [⟨.call 24 [(.v 9), (.v 6)], .push, none, false, 2, (some 0)⟩,
    ⟨.mv (.l 0), (.var 10), none, true, 3, none⟩]) (.seq (.seq (.reg [⟨.len 50 (.v 7), .push, none, false, 1, none⟩,
    ⟨.bin .gtr 3 false true (.l 0) (.k (.int .i64 40)), .push, none, false, 2, none⟩,
    ⟨.mv (.v 10), .push, (some ((.l 0), false)), true, 4, none⟩,
    ⟨.len 58 (.l 0), .push, (some ((.l 1), false)), false, 5, none⟩,
    ⟨.bin .gtr 3 false true (.l 0) (.k (.int .i64 40)), .push, (some ((.l 2), false)), false, 6, none⟩,
    ⟨.pick (.l 3) (.k (.bool true)) (.l 0), .push, none, true, 7, none⟩]) (.cond (.l 0) (.seq (.reg [⟨.build 30 [], .push, none, false, 0, none⟩,
    ⟨.mkIface 62 (.k (.int .i64 13)), .push, none, false, 1, none⟩,
    ⟨.store 30 (.v 8) (.l 1), .none, none, false, 2, none⟩,
    ⟨.mv (.l 0), (.var 12), none, true, 3, none⟩]) .ret) .skip)) (.seq (.seq (.reg [⟨.call 25 [(.v 9), (.v 10)], .push, none, false, 2, (some 0)⟩]) (.cond (.l 0) (.seq (.reg [⟨.build 30 [], .push, none, false, 0, none⟩,
    ⟨.mkIface 62 (.k (.int .i64 15)), .push, none, false, 1, none⟩,
    ⟨.store 30 (.v 8) (.l 1), .none, none, false, 2, none⟩,
    ⟨.mv (.l 0), (.var 12), none, true, 3, none⟩]) .ret) .skip)) (.seq (.reg [⟨.alloc 30, (.var 11), none, false, 0, (some 0)⟩]) (.seq (.seq (.reg [⟨.call 26 [(.v 7)], .push, none, false, 1, (some 0)⟩]) (.block 0 (.range (.l 0) 0 [none, (some (.v 11)), none] [none, none, none, none, none, none, none, none, none, none, none, none, none, none, (some (.v 11)), none, none, none, none, none, none, none, none, none, none, none, none, none, none, none, none, none, none, none, none, none, none, none, none, none, none, none, none, none, none, none, none, none, none, none, none, none, none, none, none, none, none, none, none, none, none, none, none, none, none, none, none, none, none, none, none, none, none, none, none, none, none, none, none, none, none, none, none, none, none, none, none] [64] (codeAt [1, 1, 1, 1, 1, 1, 1, 0, 1, 0, 0] (bodyOf Tryz.f7)) (codeAt [1, 1, 1, 1, 1, 1, 1, 0, 1, 0, 1] (bodyOf Tryz.f7))))) (.seq (.reg [⟨.buildSlice 27 1 [(0, (.v 10))], .push, none, false, 1, (some 0)⟩,
    ⟨.load 30 (.v 11), .push, none, true, 2, none⟩,
    ⟨.load 30 (.v 5), .push, none, true, 3, none⟩,
    ⟨.buildSlice 28 2 [(0, (.l 1)), (1, (.l 0))], .push, none, false, 4, (some 1)⟩,
    ⟨.build 30 [(4, (.l 0))], .push, none, false, 5, none⟩,
    ⟨.buildSlice 28 1 [(0, (.l 0))], .push, none, false, 6, (some 2)⟩,
    ⟨.build 30 [(3, (.l 5)), (4, (.l 0))], .push, none, false, 7, none⟩,
    ⟨.store 30 (.v 8) (.l 0), .none, none, false, 8, none⟩,
    ⟨.mv (.k .nilIface), (.var 12), none, true, 9, none⟩]) .ret))))))))), [.cell (.v 8) 30, .tmp (.v 12)]⟩
noncomputable def G7 (E : Env) : ZFn := ⟨87, [0, 1, 4, 5, 6, 9, 2, 3, 10, 12, 13, 14, 11], fun cy Y fuel =>
  (zSeq (zReg fun k => (zStep E (cy Y) ⟨.box 24 (.v 0), (.var 3), none, false, 0, (some 0)⟩) ((zStep E (cy Y) ⟨.box 30 (.v 1), (.var 4), none, false, 1, (some 1)⟩) ((zStep E (cy Y) ⟨.box 30 (.v 2), (.var 5), none, false, 2, (some 2)⟩) ((zStep E (cy Y) ⟨.alloc 30, (.var 8), none, false, 3, (some 3)⟩) ((zDst (.var 12) (vMv (.k .nilIface))) k)))))
  (zSeq (zSeq (zDreg 4 fun n0 k => (zDstWD [0, 1, 0, 7, 15, 31, 63, 63, 255, 511, 1023, 2047, 4095, 8191, 16383, 32767, 65535, 131071, 262143, 524287, 1048575, 2097151, 4194303, 8388607] 0 .push (wLoad 2 true (.v 3))) ((zCallD (cy Y) [0, 1, 0, 7, 15, 31, 63, 63, 255, 511, 1023, 2047, 4095, 8191, 16383, 32767, 65535, 131071, 262143, 524287, 1048575, 2097151, 4194303, 8388607] 1 22 [(.l 0)] .push) ((zDstWD [0, 1, 0, 7, 15, 31, 63, 63, 255, 511, 1023, 2047, 4095, 8191, 16383, 32767, 65535, 131071, 262143, 524287, 1048575, 2097151, 4194303, 8388607] 2 .push (wLoad 5 true (.v 4))) ((zCallD (cy Y) [0, 1, 0, 7, 15, 31, 63, 63, 255, 511, 1023, 2047, 4095, 8191, 16383, 32767, 65535, 131071, 262143, 524287, 1048575, 2097151, 4194303, 8388607] 3 21 [(.l 1), (.l 0)] .push) ((fun k sp => zDst .push (vNot (.l 0)) (k sp)) ((zGD (.l 0) false .push (zDstWD [0, 1, 0, 7, 15, 31, 63, 63, 255, 511, 1023, 2047, 4095, 8191, 16383, 32767, 65535, 131071, 262143, 524287, 1048575, 2097151, 4194303, 8388607] 6 .push (wLoad 2 true (.v 3)))) ((zGD (.l 1) false .push (zDstWD [0, 1, 0, 7, 15, 31, 63, 63, 255, 511, 1023, 2047, 4095, 8191, 16383, 32767, 65535, 131071, 262143, 524287, 1048575, 2097151, 4194303, 8388607] 7 .push (wLoad 5 true (.v 5)))) ((zGD (.l 2) false .push (zCallD (cy Y) [0, 1, 0, 7, 15, 31, 63, 63, 255, 511, 1023, 2047, 4095, 8191, 16383, 32767, 65535, 131071, 262143, 524287, 1048575, 2097151, 4194303, 8388607] 8 21 [(.l 1), (.l 0)] .push)) ((zGD (.l 3) false .push (fun k sp => zDst .push (vNot (.l 0)) (k sp))) ((fun k sp => zDst .push (vPick (.l 4) (.k (.bool true)) (.l 0)) (k sp)) ((zGD (.l 0) false .push (fun k sp => zDst .push (vMv (.v 6)) (k sp))) ((zGD (.l 1) false .push (fun k sp => zDst .push (vInt E fLss .lss 3 false true (.l 0) (.k (.int .i64 0))) (k sp))) ((fun k sp => zDst .push (vPick (.l 2) (.k (.bool true)) (.l 0)) (k sp)) ((zGD (.l 0) false .push (fun k sp => zDst .push (vMv (.v 6)) (k sp))) ((zGD (.l 1) false .push (fun k sp => zDst .push (vInt E fGtr .gtr 3 false true (.l 0) (.k (.int .i64 1000000))) (k sp))) ((fun k sp => zDst .push (vPick (.l 2) (.k (.bool true)) (.l 0)) (k sp)) ((zGD (.l 0) false .push (fun k sp => zDst .push (vMv (.v 7)) (k sp))) ((zGD (.l 1) false .push (zCallD (cy Y) [0, 1, 0, 7, 15, 31, 63, 63, 255, 511, 1023, 2047, 4095, 8191, 16383, 32767, 65535, 131071, 262143, 524287, 1048575, 2097151, 4194303, 8388607] 21 23 [(.l 0)] .push)) ((zGD (.l 2) false .push (fun k sp => zDst .push (vNot (.l 0)) (k sp))) ((fun k sp => zDst .push (vPick (.l 3) (.k (.bool true)) (.l 0)) (k sp)) k))))))))))))))))))))
  (zCond (.l 0) (zSeq (zReg fun k => (zStep E (cy Y) ⟨.build 30 [], .push, none, false, 0, none⟩) ((zStep E (cy Y) ⟨.mkIface 62 (.k (.int .i64 14)), .push, none, false, 1, none⟩) ((zStep E (cy Y) ⟨.store 30 (.v 8) (.l 1), .none, none, false, 2, none⟩) ((zDst (.var 12) (vMv (.l 0))) k))))
  zRet) zSkip))
  (zSeq (zReg fun k => (zDstW .push (wLoad 5 true (.v 4))) ((zCall (cy Y) 18 [(.l 0)] .push) ((zDst (.var 9) (vMv (.l 0))) k)))
  (zSeq (zReg fun k => (zCall (cy Y) 24 [(.v 9), (.v 6)] .push) ((zDst (.var 10) (vMv (.l 0))) k))
  (zSeq (zSeq (zReg fun k => (zDst .push (vLenL (.v 7))) ((zDst .push (vInt E fGtr .gtr 3 false true (.l 0) (.k (.int .i64 40)))) ((zG (.l 0) false .push (zDst .push (vMv (.v 10)))) ((zG (.l 1) false .push (zDst .push (vLenL (.l 0)))) ((zG (.l 2) false .push (zDst .push (vInt E fGtr .gtr 3 false true (.l 0) (.k (.int .i64 40))))) ((zDst .push (vPick (.l 3) (.k (.bool true)) (.l 0))) k))))))
  (zCond (.l 0) (zSeq (zReg fun k => (zStep E (cy Y) ⟨.build 30 [], .push, none, false, 0, none⟩) ((zStep E (cy Y) ⟨.mkIface 62 (.k (.int .i64 13)), .push, none, false, 1, none⟩) ((zStep E (cy Y) ⟨.store 30 (.v 8) (.l 1), .none, none, false, 2, none⟩) ((zDst (.var 12) (vMv (.l 0))) k))))
  zRet) zSkip))
  (zSeq (zSeq (zReg fun k => (zCall (cy Y) 25 [(.v 9), (.v 10)] .push) k)
  (zCond (.l 0) (zSeq (zReg fun k => (zStep E (cy Y) ⟨.build 30 [], .push, none, false, 0, none⟩) ((zStep E (cy Y) ⟨.mkIface 62 (.k (.int .i64 15)), .push, none, false, 1, none⟩) ((zStep E (cy Y) ⟨.store 30 (.v 8) (.l 1), .none, none, false, 2, none⟩) ((zDst (.var 12) (vMv (.l 0))) k))))
  zRet) zSkip))
  (zSeq (zReg fun k => (zStep E (cy Y) ⟨.alloc 30, (.var 11), none, false, 0, (some 0)⟩) k)
  (zSeq (zSeq (zReg fun k => (zCall (cy Y) 26 [(.v 7)] .push) k)
  (zBlock 0 (zRange cy Y (.l 0) 0 [none, (some (.v 11)), none] [none, none, none, none, none, none, none, none, none, none, none, none, none, none, (some (.v 11)), none, none, none, none, none, none, none, none, none, none, none, none, none, none, none, none, none, none, none, none, none, none, none, none, none, none, none, none, none, none, none, none, none, none, none, none, none, none, none, none, none, none, none, none, none, none, none, none, none, none, none, none, none, none, none, none, none, none, none, none, none, none, none, none, none, none, none, none, none, none, none, none] [64] (codeAt [1, 1, 1, 1, 1, 1, 1, 0, 1, 0, 0] (bodyOf Tryz.f7)) (codeAt [1, 1, 1, 1, 1, 1, 1, 0, 1, 0, 1] (bodyOf Tryz.f7)))))
  (zSeq (zReg fun k => (zStep E (cy Y) ⟨.buildSlice 27 1 [(0, (.v 10))], .push, none, false, 1, (some 0)⟩) ((zDstW .push (wLoad 5 true (.v 11))) ((zDstW .push (wLoad 5 true (.v 5))) ((zStep E (cy Y) ⟨.buildSlice 28 2 [(0, (.l 1)), (1, (.l 0))], .push, none, false, 4, (some 1)⟩) ((zStep E (cy Y) ⟨.build 30 [(4, (.l 0))], .push, none, false, 5, none⟩) ((zStep E (cy Y) ⟨.buildSlice 28 1 [(0, (.l 0))], .push, none, false, 6, (some 2)⟩) ((zStep E (cy Y) ⟨.build 30 [(3, (.l 5)), (4, (.l 0))], .push, none, false, 7, none⟩) ((zStep E (cy Y) ⟨.store 30 (.v 8) (.l 0), .none, none, false, 8, none⟩) ((zDst (.var 12) (vMv (.k .nilIface))) k)))))))))
  zRet))))))))), [.cell (.v 8) 30, .tmp (.v 12)]⟩
theorem G7_ok (fn : Nat → Option Func) (pu : Nat → Bool) (pr : Nat → List AV → Option (Heap → Option (Eff × Acc))) : ZOk ⟨Tryz.tyT, fn, pu, pr⟩ npT F7 (G7 ⟨Tryz.tyT, fn, pu, pr⟩) := ⟨rfl, rfl, rfl, fun cy Y k => by kernel_rfl⟩
noncomputable def F8 : FFn := ⟨13, [0, 3, 1, 2], (.seq (.reg [⟨.box 24 (.v 0), (.var 2), none, false, 0, (some 0)⟩,
    ⟨.alloc 24, (.var 3), none, false, 1, (some 1)⟩]) (.seq (.reg [⟨.build 24 [(0, (.k (.int .i64 7)))], .push, none, false, 0, none⟩,
    ⟨.buildSlice 22 1 [(0, (.l 0))], .push, none, false, 1, (some 0)⟩,
    ⟨.build 24 [(0, (.k (.int .i64 4))), (1, (.l 0))], .push, none, false, 2, none⟩,
    ⟨.alloc 24, (.var 1), none, false, 3, (some 1)⟩,
    ⟨.store 24 (.v 1) (.l 0), .none, none, false, 4, none⟩]) (.seq (.reg [⟨.load 24 (.v 1), .push, none, true, 0, none⟩,
    ⟨.load 24 (.v 2), .push, none, true, 1, none⟩,
    ⟨.buildSlice 22 2 [(0, (.l 1)), (1, (.l 0))], .push, none, false, 2, (some 0)⟩,
    ⟨.build 24 [(0, (.k (.int .i64 5))), (1, (.l 0))], .push, none, false, 3, none⟩,
    ⟨.buildSlice 22 1 [(0, (.l 0))], .push, none, false, 4, (some 1)⟩,
    ⟨.build 24 [(0, (.k (.int .i64 8))), (1, (.l 0))], .push, none, false, 5, none⟩,
    ⟨.store 24 (.v 3) (.l 0), .none, none, false, 6, none⟩]) .ret))), [.cell (.v 3) 24]⟩
noncomputable def G8 (E : Env) : ZFn := ⟨13, [0, 3, 1, 2], fun cy Y fuel =>
  (zSeq (zReg fun k => (zStep E (cy Y) ⟨.box 24 (.v 0), (.var 2), none, false, 0, (some 0)⟩) ((zStep E (cy Y) ⟨.alloc 24, (.var 3), none, false, 1, (some 1)⟩) k))
  (zSeq (zReg fun k => (zStep E (cy Y) ⟨.build 24 [(0, (.k (.int .i64 7)))], .push, none, false, 0, none⟩) ((zStep E (cy Y) ⟨.buildSlice 22 1 [(0, (.l 0))], .push, none, false, 1, (some 0)⟩) ((zStep E (cy Y) ⟨.build 24 [(0, (.k (.int .i64 4))), (1, (.l 0))], .push, none, false, 2, none⟩) ((zStep E (cy Y) ⟨.alloc 24, (.var 1), none, false, 3, (some 1)⟩) ((zStep E (cy Y) ⟨.store 24 (.v 1) (.l 0), .none, none, false, 4, none⟩) k)))))
  (zSeq (zReg fun k => (zDstW .push (wLoad 2 true (.v 1))) ((zDstW .push (wLoad 2 true (.v 2))) ((zStep E (cy Y) ⟨.buildSlice 22 2 [(0, (.l 1)), (1, (.l 0))], .push, none, false, 2, (some 0)⟩) ((zStep E (cy Y) ⟨.build 24 [(0, (.k (.int .i64 5))), (1, (.l 0))], .push, none, false, 3, none⟩) ((zStep E (cy Y) ⟨.buildSlice 22 1 [(0, (.l 0))], .push, none, false, 4, (some 1)⟩) ((zStep E (cy Y) ⟨.build 24 [(0, (.k (.int .i64 8))), (1, (.l 0))], .push, none, false, 5, none⟩) ((zStep E (cy Y) ⟨.store 24 (.v 3) (.l 0), .none, none, false, 6, none⟩) k)))))))
  zRet))), [.cell (.v 3) 24]⟩
theorem G8_ok (fn : Nat → Option Func) (pu : Nat → Bool) (pr : Nat → List AV → Option (Heap → Option (Eff × Acc))) : ZOk ⟨Tryz.tyT, fn, pu, pr⟩ npT F8 (G8 ⟨Tryz.tyT, fn, pu, pr⟩) := ⟨rfl, rfl, rfl, fun cy Y k => by kernel_rfl⟩
noncomputable def F9 : FFn := ⟨32, [0, 1, 2, 3, 4, 5, 6, 9, 8, 7], (.seq (.reg [⟨.box 24 (.v 0), (.var 3), none, false, 0, (some 0)⟩,
    ⟨.box 30 (.v 1), (.var 4), none, false, 1, (some 1)⟩,
    ⟨.box 30 (.v 2), (.var 5), none, false, 2, (some 2)⟩,
    ⟨.alloc 30, (.var 6), none, false, 3, (some 3)⟩,
    ⟨.mv (.k (.int .i64 0)), (.var 9), none, true, 4, none⟩]) (.seq (.seq (.reg [⟨.load 24 (.v 3), .push, none, true, 0, none⟩,
    ⟨.load 30 (.v 4), .push, none, true, 1, none⟩,
    ⟨.call 12 [(.l 1), (.l 0)], .push, none, false, 2, (some 0)⟩,
    ⟨.un .not (.l 0), .push, none, false, 3, none⟩,
    ⟨.load 24 (.v 3), .push, (some ((.l 0), false)), true, 5, none⟩,
    ⟨.load 30 (.v 5), .push, (some ((.l 1), false)), true, 6, none⟩,
    ⟨.call 12 [(.l 1), (.l 0)], .push, (some ((.l 2), false)), false, 7, (some 1)⟩,
    ⟨.un .not (.l 0), .push, (some ((.l 3), false)), false, 8, none⟩,
    ⟨.pick (.l 4) (.k (.bool true)) (.l 0), .push, none, true, 9, none⟩]) (.cond (.l 0) (.seq (.reg [⟨.build 30 [], .push, none, false, 0, none⟩,
    ⟨.store 30 (.v 6) (.l 0), .none, none, false, 1, none⟩,
    ⟨.mv (.k (.int .i64 14)), (.var 9), none, true, 2, none⟩]) .ret) .skip)) (.seq (.reg [⟨.load 24 (.v 3), .push, none, true, 0, none⟩,
    ⟨.load 30 (.v 4), .push, none, true, 1, none⟩,
    ⟨.load 30 (.v 5), .push, none, true, 2, none⟩,
    ⟨.call 27 [(.l 2), (.l 1), (.l 0)], .push, none, false, 3, (some 0)⟩,
    ⟨.extract (.l 0) 0, .push, none, true, 5, none⟩,
    ⟨.extract (.l 1) 1, .push, none, true, 6, none⟩,
    ⟨.alloc 30, (.var 8), none, false, 7, (some 1)⟩,
    ⟨.store 30 (.v 8) (.l 1), .none, none, false, 8, none⟩,
    ⟨.mv (.l 0), (.var 7), none, true, 9, none⟩]) (.seq (.seq (.reg [⟨.un .not (.v 7), .push, none, false, 1, none⟩]) (.cond (.l 0) (.seq (.reg [⟨.build 30 [], .push, none, false, 0, none⟩,
    ⟨.store 30 (.v 6) (.l 0), .none, none, false, 1, none⟩,
    ⟨.mv (.k (.int .i64 13)), (.var 9), none, true, 2, none⟩]) .ret) .skip)) (.seq (.reg [⟨.load 30 (.v 8), .push, none, true, 0, none⟩,
    ⟨.store 30 (.v 6) (.l 0), .none, none, false, 1, none⟩,
    ⟨.mv (.k (.int .i64 0)), (.var 9), none, true, 2, none⟩]) .ret))))), [.cell (.v 6) 30, .tmp (.v 9)]⟩
noncomputable def G9 (E : Env) : ZFn := ⟨32, [0, 1, 2, 3, 4, 5, 6, 9, 8, 7], fun cy Y fuel =>
  (zSeq (zReg fun k => (zStep E (cy Y) ⟨.box 24 (.v 0), (.var 3), none, false, 0, (some 0)⟩) ((zStep E (cy Y) ⟨.box 30 (.v 1), (.var 4), none, false, 1, (some 1)⟩) ((zStep E (cy Y) ⟨.box 30 (.v 2), (.var 5), none, false, 2, (some 2)⟩) ((zStep E (cy Y) ⟨.alloc 30, (.var 6), none, false, 3, (some 3)⟩) ((zDst (.var 9) (vMv (.k (.int .i64 0)))) k)))))
  (zSeq (zSeq (zReg fun k => (zDstW .push (wLoad 2 true (.v 3))) ((zDstW .push (wLoad 5 true (.v 4))) ((zCall (cy Y) 12 [(.l 1), (.l 0)] .push) ((zDst .push (vNot (.l 0))) ((zG (.l 0) false .push (zDstW .push (wLoad 2 true (.v 3)))) ((zG (.l 1) false .push (zDstW .push (wLoad 5 true (.v 5)))) ((zG (.l 2) false .push (zCall (cy Y) 12 [(.l 1), (.l 0)] .push)) ((zG (.l 3) false .push (zDst .push (vNot (.l 0)))) ((zDst .push (vPick (.l 4) (.k (.bool true)) (.l 0))) k)))))))))
  (zCond (.l 0) (zSeq (zReg fun k => (zStep E (cy Y) ⟨.build 30 [], .push, none, false, 0, none⟩) ((zStep E (cy Y) ⟨.store 30 (.v 6) (.l 0), .none, none, false, 1, none⟩) ((zDst (.var 9) (vMv (.k (.int .i64 14)))) k)))
  zRet) zSkip))
  (zSeq (zReg fun k => (zDstW .push (wLoad 2 true (.v 3))) ((zDstW .push (wLoad 5 true (.v 4))) ((zDstW .push (wLoad 5 true (.v 5))) ((zCall (cy Y) 27 [(.l 2), (.l 1), (.l 0)] .push) ((zDst .push (vExtract 0 (.l 0))) ((zDst .push (vExtract 1 (.l 1))) ((zStep E (cy Y) ⟨.alloc 30, (.var 8), none, false, 7, (some 1)⟩) ((zStep E (cy Y) ⟨.store 30 (.v 8) (.l 1), .none, none, false, 8, none⟩) ((zDst (.var 7) (vMv (.l 0))) k)))))))))
  (zSeq (zSeq (zReg fun k => (zDst .push (vNot (.v 7))) k)
  (zCond (.l 0) (zSeq (zReg fun k => (zStep E (cy Y) ⟨.build 30 [], .push, none, false, 0, none⟩) ((zStep E (cy Y) ⟨.store 30 (.v 6) (.l 0), .none, none, false, 1, none⟩) ((zDst (.var 9) (vMv (.k (.int .i64 13)))) k)))
  zRet) zSkip))
  (zSeq (zReg fun k => (zDstW .push (wLoad 5 true (.v 8))) ((zStep E (cy Y) ⟨.store 30 (.v 6) (.l 0), .none, none, false, 1, none⟩) ((zDst (.var 9) (vMv (.k (.int .i64 0)))) k)))
  zRet))))), [.cell (.v 6) 30, .tmp (.v 9)]⟩
theorem G9_ok (fn : Nat → Option Func) (pu : Nat → Bool) (pr : Nat → List AV → Option (Heap → Option (Eff × Acc))) : ZOk ⟨Tryz.tyT, fn, pu, pr⟩ npT F9 (G9 ⟨Tryz.tyT, fn, pu, pr⟩) := ⟨rfl, rfl, rfl, fun cy Y k => by kernel_rfl⟩
noncomputable def F10 : FFn := ⟨31, [0, 1, 2, 3, 4, 6, 5], (.seq (.reg [⟨.box 24 (.v 0), (.var 2), none, false, 0, (some 0)⟩,
    ⟨.box 30 (.v 1), (.var 3), none, false, 1, (some 1)⟩,
    ⟨.alloc 30, (.var 4), none, false, 2, (some 2)⟩,
    ⟨.mv (.k .nilIface), (.var 6), none, true, 3, none⟩]) (.seq (.seq (.dreg 2 [0, 1, 0, 7, 15] [⟨.load 24 (.v 2), .push, none, true, 0, none⟩,
    ⟨.call 22 [(.l 0)], .push, none, false, 1, (some 0)⟩,
    ⟨.load 30 (.v 3), .push, none, true, 2, none⟩,
    ⟨.call 21 [(.l 1), (.l 0)], .push, none, false, 3, (some 1)⟩,
    ⟨.un .not (.l 0), .push, none, false, 4, none⟩]) (.cond (.l 0) (.seq (.reg [⟨.build 30 [], .push, none, false, 0, none⟩,
    ⟨.mkIface 62 (.k (.int .i64 14)), .push, none, false, 1, none⟩,
    ⟨.store 30 (.v 4) (.l 1), .none, none, false, 2, none⟩,
    ⟨.mv (.l 0), (.var 6), none, true, 3, none⟩]) .ret) .skip)) (.seq (.reg [⟨.alloc 28, (.var 5), none, false, 0, (some 0)⟩]) (.seq (.seq (.reg [⟨.load 30 (.v 3), .push, none, true, 0, none⟩,
    ⟨.call 28 [(.l 0)], .push, none, false, 1, (some 0)⟩]) (.block 0 (.range (.l 0) 1 [none, (some (.v 5)), none] [none, none, none, none, none, none, (some (.v 5)), none, none, none, none, none, none, none, none, none, none, none, none, none, none, none, none, none, none, none, none, none, none, none, none] [18, 19] (codeAt [1, 1, 1, 0, 1, 0, 0] (bodyOf Tryz.f10)) (codeAt [1, 1, 1, 0, 1, 0, 1] (bodyOf Tryz.f10))))) (.seq (.reg [⟨.load 24 (.v 2), .push, none, true, 0, none⟩,
    ⟨.load 28 (.v 5), .push, none, true, 1, none⟩,
    ⟨.call 29 [(.l 1), (.l 0)], .push, none, false, 2, (some 0)⟩,
    ⟨.extract (.l 0) 0, .push, none, true, 3, none⟩,
    ⟨.extract (.l 1) 1, .push, none, true, 4, none⟩,
    ⟨.store 30 (.v 4) (.l 1), .none, none, false, 5, none⟩,
    ⟨.mv (.l 0), (.var 6), none, true, 6, none⟩]) .ret))))), [.cell (.v 4) 30, .tmp (.v 6)]⟩
noncomputable def G10 (E : Env) : ZFn := ⟨31, [0, 1, 2, 3, 4, 6, 5], fun cy Y fuel =>
  (zSeq (zReg fun k => (zStep E (cy Y) ⟨.box 24 (.v 0), (.var 2), none, false, 0, (some 0)⟩) ((zStep E (cy Y) ⟨.box 30 (.v 1), (.var 3), none, false, 1, (some 1)⟩) ((zStep E (cy Y) ⟨.alloc 30, (.var 4), none, false, 2, (some 2)⟩) ((zDst (.var 6) (vMv (.k .nilIface))) k))))
  (zSeq (zSeq (zDreg 2 fun n0 k => (zDstWD [0, 1, 0, 7, 15] 0 .push (wLoad 2 true (.v 2))) ((zCallD (cy Y) [0, 1, 0, 7, 15] 1 22 [(.l 0)] .push) ((zDstWD [0, 1, 0, 7, 15] 2 .push (wLoad 5 true (.v 3))) ((zCallD (cy Y) [0, 1, 0, 7, 15] 3 21 [(.l 1), (.l 0)] .push) ((fun k sp => zDst .push (vNot (.l 0)) (k sp)) k)))))
  (zCond (.l 0) (zSeq (zReg fun k => (zStep E (cy Y) ⟨.build 30 [], .push, none, false, 0, none⟩) ((zStep E (cy Y) ⟨.mkIface 62 (.k (.int .i64 14)), .push, none, false, 1, none⟩) ((zStep E (cy Y) ⟨.store 30 (.v 4) (.l 1), .none, none, false, 2, none⟩) ((zDst (.var 6) (vMv (.l 0))) k))))
  zRet) zSkip))
  (zSeq (zReg fun k => (zStep E (cy Y) ⟨.alloc 28, (.var 5), none, false, 0, (some 0)⟩) k)
  (zSeq (zSeq (zReg fun k => (zDstW .push (wLoad 5 true (.v 3))) ((zCall (cy Y) 28 [(.l 0)] .push) k))
  (zBlock 0 (zRange cy Y (.l 0) 1 [none, (some (.v 5)), none] [none, none, none, none, none, none, (some (.v 5)), none, none, none, none, none, none, none, none, none, none, none, none, none, none, none, none, none, none, none, none, none, none, none, none] [18, 19] (codeAt [1, 1, 1, 0, 1, 0, 0] (bodyOf Tryz.f10)) (codeAt [1, 1, 1, 0, 1, 0, 1] (bodyOf Tryz.f10)))))
  (zSeq (zReg fun k => (zDstW .push (wLoad 2 true (.v 2))) ((zDstW .push (wLoad 1 false (.v 5))) ((zCall (cy Y) 29 [(.l 1), (.l 0)] .push) ((zDst .push (vExtract 0 (.l 0))) ((zDst .push (vExtract 1 (.l 1))) ((zStep E (cy Y) ⟨.store 30 (.v 4) (.l 1), .none, none, false, 5, none⟩) ((zDst (.var 6) (vMv (.l 0))) k)))))))
  zRet))))), [.cell (.v 4) 30, .tmp (.v 6)]⟩
theorem G10_ok (fn : Nat → Option Func) (pu : Nat → Bool) (pr : Nat → List AV → Option (Heap → Option (Eff × Acc))) : ZOk ⟨Tryz.tyT, fn, pu, pr⟩ npT F10 (G10 ⟨Tryz.tyT, fn, pu, pr⟩) := ⟨rfl, rfl, rfl, fun cy Y k => by kernel_rfl⟩
noncomputable def F11 : FFn := ⟨83, [0, 1, 2, 3, 5, 6, 4], (.seq (.reg [⟨.box 30 (.v 0), (.var 2), none, false, 0, (some 0)⟩,
    ⟨.box 30 (.v 1), (.var 3), none, false, 1, (some 1)⟩,
    ⟨.mv (.k (.bool false)), (.var 6), none, true, 2, none⟩]) (.seq (.seq (.reg [⟨.fieldAddr 30 (.v 2) 0, .push, none, true, 0, none⟩,
    ⟨.load 25 (.l 0), .push, none, true, 1, none⟩,
    ⟨.fieldAddr 30 (.v 3) 0, .push, none, true, 2, none⟩,
    ⟨.load 25 (.l 0), .push, none, true, 3, none⟩,
    ⟨.bin .neq 25 false false (.l 2) (.l 0), .push, none, false, 4, none⟩,
    ⟨.fieldAddr 30 (.v 2) 1, .push, (some ((.l 0), false)), true, 6, none⟩,
    ⟨.load 25 (.l 0), .push, (some ((.l 1), false)), true, 7, none⟩,
    ⟨.fieldAddr 30 (.v 3) 1, .push, (some ((.l 2), false)), true, 8, none⟩,
    ⟨.load 25 (.l 0), .push, (some ((.l 3), false)), true, 9, none⟩,
    ⟨.bin .neq 25 false false (.l 2) (.l 0), .push, (some ((.l 4), false)), false, 10, none⟩,
    ⟨.pick (.l 5) (.k (.bool true)) (.l 0), .push, none, true, 11, none⟩,
    ⟨.fieldAddr 30 (.v 2) 2, .push, (some ((.l 0), false)), true, 13, none⟩,
    ⟨.load 26 (.l 0), .push, (some ((.l 1), false)), true, 14, none⟩,
    ⟨.fieldAddr 30 (.v 3) 2, .push, (some ((.l 2), false)), true, 15, none⟩,
    ⟨.load 26 (.l 0), .push, (some ((.l 3), false)), true, 16, none⟩,
    ⟨.call 30 [(.l 2), (.l 0)], .push, (some ((.l 4), false)), false, 17, (some 0)⟩,
    ⟨.un .not (.l 0), .push, (some ((.l 5), false)), false, 18, none⟩,
    ⟨.pick (.l 6) (.k (.bool true)) (.l 0), .push, none, true, 19, none⟩,
    ⟨.fieldAddr 30 (.v 2) 3, .push, (some ((.l 0), false)), true, 21, none⟩,
    ⟨.load 27 (.l 0), .push, (some ((.l 1), false)), true, 22, none⟩,
    ⟨.len 27 (.l 0), .push, (some ((.l 2), false)), false, 23, none⟩,
    ⟨.fieldAddr 30 (.v 3) 3, .push, (some ((.l 3), false)), true, 24, none⟩,
    ⟨.load 27 (.l 0), .push, (some ((.l 4), false)), true, 25, none⟩,
    ⟨.len 27 (.l 0), .push, (some ((.l 5), false)), false, 26, none⟩,
    ⟨.bin .neq 3 false false (.l 3) (.l 0), .push, (some ((.l 6), false)), false, 27, none⟩,
    ⟨.pick (.l 7) (.k (.bool true)) (.l 0), .push, none, true, 28, none⟩,
    ⟨.fieldAddr 30 (.v 2) 4, .push, (some ((.l 0), false)), true, 30, none⟩,
    ⟨.load 28 (.l 0), .push, (some ((.l 1), false)), true, 31, none⟩,
    ⟨.len 28 (.l 0), .push, (some ((.l 2), false)), false, 32, none⟩,
    ⟨.fieldAddr 30 (.v 3) 4, .push, (some ((.l 3), false)), true, 33, none⟩,
    ⟨.load 28 (.l 0), .push, (some ((.l 4), false)), true, 34, none⟩,
    ⟨.len 28 (.l 0), .push, (some ((.l 5), false)), false, 35, none⟩,
    ⟨.bin .neq 3 false false (.l 3) (.l 0), .push, (some ((.l 6), false)), false, 36, none⟩,
    ⟨.pick (.l 7) (.k (.bool true)) (.l 0), .push, none, true, 37, none⟩]) (.cond (.l 0) (.seq (.reg [⟨.mv (.k (.bool false)), (.var 6), none, true, 0, none⟩]) .ret) .skip)) (.seq (.seq (.reg [⟨.mv (.k (.int .i64 0)), (.var 4), none, true, 0, none⟩]) (.block 0 (.loop (.seq (.seq (.reg [⟨.fieldAddr 30 (.v 2) 3, .push, none, true, 1, none⟩,
    ⟨.load 27 (.l 0), .push, none, true, 2, none⟩,
    ⟨.len 27 (.l 0), .push, none, false, 3, none⟩,
    ⟨.bin .lss 3 false false (.v 4) (.l 0), .push, none, false, 4, none⟩]) (.cond (.l 0) .skip (.exit 0))) (.seq (.block 1 (.seq (.dreg 1 [0, 1, 0, 7, 15, 0, 32, 0, 224, 480, 1023, 2047] [⟨.fieldAddr 30 (.v 2) 3, .push, none, true, 0, none⟩,
    ⟨.load 27 (.l 0), .push, none, true, 1, none⟩,
    ⟨.indexAddr 27 (.l 0) (.v 4), .push, none, true, 3, none⟩,
    ⟨.load 58 (.l 0), .push, none, true, 4, none⟩,
    ⟨.fieldAddr 30 (.v 3) 3, .push, none, true, 5, none⟩,
    ⟨.load 27 (.l 0), .push, none, true, 6, none⟩,
    ⟨.indexAddr 27 (.l 0) (.v 4), .push, none, true, 8, none⟩,
    ⟨.load 58 (.l 0), .push, none, true, 9, none⟩,
    ⟨.call 31 [(.l 4), (.l 0)], .push, none, false, 10, (some 0)⟩,
    ⟨.un .not (.l 0), .push, none, false, 11, none⟩]) (.cond (.l 0) (.seq (.reg [⟨.mv (.k (.bool false)), (.var 6), none, true, 0, none⟩]) .ret) .skip))) (.reg [⟨.mv (.v 4), .push, none, true, 0, none⟩,
    ⟨.bin .add 3 false true (.l 0) (.k (.int .i64 1)), .push, none, false, 1, none⟩,
    ⟨.mv (.l 0), (.var 4), none, true, 2, none⟩])))))) (.seq (.seq (.reg [⟨.mv (.k (.int .i64 0)), (.var 5), none, true, 0, none⟩]) (.block 2 (.loop (.seq (.seq (.reg [⟨.fieldAddr 30 (.v 2) 4, .push, none, true, 1, none⟩,
    ⟨.load 28 (.l 0), .push, none, true, 2, none⟩,
    ⟨.len 28 (.l 0), .push, none, false, 3, none⟩,
    ⟨.bin .lss 3 false false (.v 5) (.l 0), .push, none, false, 4, none⟩]) (.cond (.l 0) .skip (.exit 2))) (.seq (.block 3 (.seq (.dreg 1 [0, 1, 0, 7, 15, 0, 32, 0, 224, 480, 1023, 2047] [⟨.fieldAddr 30 (.v 2) 4, .push, none, true, 0, none⟩,
    ⟨.load 28 (.l 0), .push, none, true, 1, none⟩,
    ⟨.indexAddr 28 (.l 0) (.v 5), .push, none, true, 3, none⟩,
    ⟨.load 30 (.l 0), .push, none, true, 4, none⟩,
    ⟨.fieldAddr 30 (.v 3) 4, .push, none, true, 5, none⟩,
    ⟨.load 28 (.l 0), .push, none, true, 6, none⟩,
    ⟨.indexAddr 28 (.l 0) (.v 5), .push, none, true, 8, none⟩,
    ⟨.load 30 (.l 0), .push, none, true, 9, none⟩,
    ⟨.call 11 [(.l 4), (.l 0)], .push, none, false, 10, (some 0)⟩,
    ⟨.un .not (.l 0), .push, none, false, 11, none⟩]) (.cond (.l 0) (.seq (.reg [⟨.mv (.k (.bool false)), (.var 6), none, true, 0, none⟩]) .ret) .skip))) (.reg [⟨.mv (.v 5), .push, none, true, 0, none⟩,
    ⟨.bin .add 3 false true (.l 0) (.k (.int .i64 1)), .push, none, false, 1, none⟩,
    ⟨.mv (.l 0), (.var 5), none, true, 2, none⟩])))))) (.seq (.reg [⟨.mv (.k (.bool true)), (.var 6), none, true, 0, none⟩]) .ret))))), [.tmp (.v 6)]⟩
noncomputable def G11 (E : Env) : ZFn := ⟨83, [0, 1, 2, 3, 5, 6, 4], fun cy Y fuel =>
  (zSeq (zReg fun k => (zStep E (cy Y) ⟨.box 30 (.v 0), (.var 2), none, false, 0, (some 0)⟩) ((zStep E (cy Y) ⟨.box 30 (.v 1), (.var 3), none, false, 1, (some 1)⟩) ((zDst (.var 6) (vMv (.k (.bool false)))) k)))
  (zSeq (zSeq (zReg fun k => (zDst .push (vFieldAddr 0 (.v 2))) ((zDstW .push (wLoad 1 false (.l 0))) ((zDst .push (vFieldAddr 0 (.v 3))) ((zDstW .push (wLoad 1 false (.l 0))) ((zDst .push (vInt E fNeq .neq 25 false false (.l 2) (.l 0))) ((zG (.l 0) false .push (zDst .push (vFieldAddr 1 (.v 2)))) ((zG (.l 1) false .push (zDstW .push (wLoad 1 false (.l 0)))) ((zG (.l 2) false .push (zDst .push (vFieldAddr 1 (.v 3)))) ((zG (.l 3) false .push (zDstW .push (wLoad 1 false (.l 0)))) ((zG (.l 4) false .push (zDst .push (vInt E fNeq .neq 25 false false (.l 2) (.l 0)))) ((zDst .push (vPick (.l 5) (.k (.bool true)) (.l 0))) ((zG (.l 0) false .push (zDst .push (vFieldAddr 2 (.v 2)))) ((zG (.l 1) false .push (zDstW .push (wLoad 1 false (.l 0)))) ((zG (.l 2) false .push (zDst .push (vFieldAddr 2 (.v 3)))) ((zG (.l 3) false .push (zDstW .push (wLoad 1 false (.l 0)))) ((zG (.l 4) false .push (zCall (cy Y) 30 [(.l 2), (.l 0)] .push)) ((zG (.l 5) false .push (zDst .push (vNot (.l 0)))) ((zDst .push (vPick (.l 6) (.k (.bool true)) (.l 0))) ((zG (.l 0) false .push (zDst .push (vFieldAddr 3 (.v 2)))) ((zG (.l 1) false .push (zDstW .push (wLoad 1 false (.l 0)))) ((zG (.l 2) false .push (zDst .push (vLenL (.l 0)))) ((zG (.l 3) false .push (zDst .push (vFieldAddr 3 (.v 3)))) ((zG (.l 4) false .push (zDstW .push (wLoad 1 false (.l 0)))) ((zG (.l 5) false .push (zDst .push (vLenL (.l 0)))) ((zG (.l 6) false .push (zDst .push (vInt E fNeq .neq 3 false false (.l 3) (.l 0)))) ((zDst .push (vPick (.l 7) (.k (.bool true)) (.l 0))) ((zG (.l 0) false .push (zDst .push (vFieldAddr 4 (.v 2)))) ((zG (.l 1) false .push (zDstW .push (wLoad 1 false (.l 0)))) ((zG (.l 2) false .push (zDst .push (vLenL (.l 0)))) ((zG (.l 3) false .push (zDst .push (vFieldAddr 4 (.v 3)))) ((zG (.l 4) false .push (zDstW .push (wLoad 1 false (.l 0)))) ((zG (.l 5) false .push (zDst .push (vLenL (.l 0)))) ((zG (.l 6) false .push (zDst .push (vInt E fNeq .neq 3 false false (.l 3) (.l 0)))) ((zDst .push (vPick (.l 7) (.k (.bool true)) (.l 0))) k))))))))))))))))))))))))))))))))))
  (zCond (.l 0) (zSeq (zReg fun k => (zDst (.var 6) (vMv (.k (.bool false)))) k)
  zRet) zSkip))
  (zSeq (zSeq (zReg fun k => (zDst (.var 4) (vMv (.k (.int .i64 0)))) k)
  (zBlock 0 (zLoop fuel (zSeq (zSeq (zReg fun k => (zDst .push (vFieldAddr 3 (.v 2))) ((zDstW .push (wLoad 1 false (.l 0))) ((zDst .push (vLenL (.l 0))) ((zDst .push (vInt E fLss .lss 3 false false (.v 4) (.l 0))) k))))
  (zCond (.l 0) zSkip (zExit 0)))
  (zSeq (zBlock 1 (zSeq (zDreg 1 fun n0 k => (fun k sp => zDst .push (vFieldAddr 3 (.v 2)) (k sp)) ((zDstWD [0, 1, 0, 7, 15, 0, 32, 0, 224, 480, 1023, 2047] 1 .push (wLoad 1 false (.l 0))) ((fun k sp => zDst .push (vIndexAddr 1 (.l 0) (.v 4)) (k sp)) ((zDstWD [0, 1, 0, 7, 15, 0, 32, 0, 224, 480, 1023, 2047] 4 .push (wLoad 1 false (.l 0))) ((fun k sp => zDst .push (vFieldAddr 3 (.v 3)) (k sp)) ((zDstWD [0, 1, 0, 7, 15, 0, 32, 0, 224, 480, 1023, 2047] 6 .push (wLoad 1 false (.l 0))) ((fun k sp => zDst .push (vIndexAddr 1 (.l 0) (.v 4)) (k sp)) ((zDstWD [0, 1, 0, 7, 15, 0, 32, 0, 224, 480, 1023, 2047] 9 .push (wLoad 1 false (.l 0))) ((zCallD (cy Y) [0, 1, 0, 7, 15, 0, 32, 0, 224, 480, 1023, 2047] 10 31 [(.l 4), (.l 0)] .push) ((fun k sp => zDst .push (vNot (.l 0)) (k sp)) k))))))))))
  (zCond (.l 0) (zSeq (zReg fun k => (zDst (.var 6) (vMv (.k (.bool false)))) k)
  zRet) zSkip)))
  (zReg fun k => (zDst .push (vMv (.v 4))) ((zDst .push (vInt E fAdd .add 3 false true (.l 0) (.k (.int .i64 1)))) ((zDst (.var 4) (vMv (.l 0))) k))))))))
  (zSeq (zSeq (zReg fun k => (zDst (.var 5) (vMv (.k (.int .i64 0)))) k)
  (zBlock 2 (zLoop fuel (zSeq (zSeq (zReg fun k => (zDst .push (vFieldAddr 4 (.v 2))) ((zDstW .push (wLoad 1 false (.l 0))) ((zDst .push (vLenL (.l 0))) ((zDst .push (vInt E fLss .lss 3 false false (.v 5) (.l 0))) k))))
  (zCond (.l 0) zSkip (zExit 2)))
  (zSeq (zBlock 3 (zSeq (zDreg 1 fun n0 k => (fun k sp => zDst .push (vFieldAddr 4 (.v 2)) (k sp)) ((zDstWD [0, 1, 0, 7, 15, 0, 32, 0, 224, 480, 1023, 2047] 1 .push (wLoad 1 false (.l 0))) ((fun k sp => zDst .push (vIndexAddr 5 (.l 0) (.v 5)) (k sp)) ((zDstWD [0, 1, 0, 7, 15, 0, 32, 0, 224, 480, 1023, 2047] 4 .push (wLoad 5 true (.l 0))) ((fun k sp => zDst .push (vFieldAddr 4 (.v 3)) (k sp)) ((zDstWD [0, 1, 0, 7, 15, 0, 32, 0, 224, 480, 1023, 2047] 6 .push (wLoad 1 false (.l 0))) ((fun k sp => zDst .push (vIndexAddr 5 (.l 0) (.v 5)) (k sp)) ((zDstWD [0, 1, 0, 7, 15, 0, 32, 0, 224, 480, 1023, 2047] 9 .push (wLoad 5 true (.l 0))) ((zCallD (cy Y) [0, 1, 0, 7, 15, 0, 32, 0, 224, 480, 1023, 2047] 10 11 [(.l 4), (.l 0)] .push) ((fun k sp => zDst .push (vNot (.l 0)) (k sp)) k))))))))))
  (zCond (.l 0) (zSeq (zReg fun k => (zDst (.var 6) (vMv (.k (.bool false)))) k)
  zRet) zSkip)))
  (zReg fun k => (zDst .push (vMv (.v 5))) ((zDst .push (vInt E fAdd .add 3 false true (.l 0) (.k (.int .i64 1)))) ((zDst (.var 5) (vMv (.l 0))) k))))))))
  (zSeq (zReg fun k => (zDst (.var 6) (vMv (.k (.bool true)))) k)
  zRet))))), [.tmp (.v 6)]⟩
theorem G11_ok (fn : Nat → Option Func) (pu : Nat → Bool) (pr : Nat → List AV → Option (Heap → Option (Eff × Acc))) : ZOk ⟨Tryz.tyT, fn, pu, pr⟩ npT F11 (G11 ⟨Tryz.tyT, fn, pu, pr⟩) := ⟨rfl, rfl, rfl, fun cy Y k => by kernel_rfl⟩
noncomputable def F12 : FFn := ⟨12, [0, 1, 2, 3, 4], (.seq (.reg [⟨.box 24 (.v 0), (.var 2), none, false, 0, (some 0)⟩,
    ⟨.box 30 (.v 1), (.var 3), none, false, 1, (some 1)⟩,
    ⟨.mv (.k (.bool false)), (.var 4), none, true, 2, none⟩]) (.seq (.reg [⟨.load 24 (.v 2), .push, none, true, 0, none⟩,
    ⟨.call 32 [(.l 0)], .push, none, false, 1, (some 0)⟩,
    ⟨.load 24 (.v 2), .push, (some ((.l 0), true)), true, 3, none⟩,
    ⟨.load 30 (.v 3), .push, (some ((.l 1), true)), true, 4, none⟩,
    ⟨.call 33 [(.l 1), (.l 0)], .push, (some ((.l 2), true)), false, 5, (some 1)⟩,
    ⟨.pick (.l 3) (.l 0) (.k (.bool false)), .push, none, true, 6, none⟩,
    ⟨.mv (.l 0), (.var 4), none, true, 7, none⟩]) .ret)), [.tmp (.v 4)]⟩
noncomputable def G12 (E : Env) : ZFn := ⟨12, [0, 1, 2, 3, 4], fun cy Y fuel =>
  (zSeq (zReg fun k => (zStep E (cy Y) ⟨.box 24 (.v 0), (.var 2), none, false, 0, (some 0)⟩) ((zStep E (cy Y) ⟨.box 30 (.v 1), (.var 3), none, false, 1, (some 1)⟩) ((zDst (.var 4) (vMv (.k (.bool false)))) k)))
  (zSeq (zReg fun k => (zDstW .push (wLoad 2 true (.v 2))) ((zCall (cy Y) 32 [(.l 0)] .push) ((zG (.l 0) true .push (zDstW .push (wLoad 2 true (.v 2)))) ((zG (.l 1) true .push (zDstW .push (wLoad 5 true (.v 3)))) ((zG (.l 2) true .push (zCall (cy Y) 33 [(.l 1), (.l 0)] .push)) ((zDst .push (vPick (.l 3) (.l 0) (.k (.bool false)))) ((zDst (.var 4) (vMv (.l 0))) k)))))))
  zRet)), [.tmp (.v 4)]⟩
theorem G12_ok (fn : Nat → Option Func) (pu : Nat → Bool) (pr : Nat → List AV → Option (Heap → Option (Eff × Acc))) : ZOk ⟨Tryz.tyT, fn, pu, pr⟩ npT F12 (G12 ⟨Tryz.tyT, fn, pu, pr⟩) := ⟨rfl, rfl, rfl, fun cy Y k => by kernel_rfl⟩
noncomputable def F14 : FFn := ⟨2, [0], (.seq (.reg [⟨.alloc 24, (.var 0), none, false, 0, (some 0)⟩]) (.seq (.reg [⟨.build 24 [(0, (.k (.int .i64 1)))], .push, none, false, 0, none⟩,
    ⟨.store 24 (.v 0) (.l 0), .none, none, false, 1, none⟩]) .ret)), [.cell (.v 0) 24]⟩
noncomputable def G14 (E : Env) : ZFn := ⟨2, [0], fun cy Y fuel =>
  (zSeq (zReg fun k => (zStep E (cy Y) ⟨.alloc 24, (.var 0), none, false, 0, (some 0)⟩) k)
  (zSeq (zReg fun k => (zStep E (cy Y) ⟨.build 24 [(0, (.k (.int .i64 1)))], .push, none, false, 0, none⟩) ((zStep E (cy Y) ⟨.store 24 (.v 0) (.l 0), .none, none, false, 1, none⟩) k))
  zRet)), [.cell (.v 0) 24]⟩
theorem G14_ok (fn : Nat → Option Func) (pu : Nat → Bool) (pr : Nat → List AV → Option (Heap → Option (Eff × Acc))) : ZOk ⟨Tryz.tyT, fn, pu, pr⟩ npT F14 (G14 ⟨Tryz.tyT, fn, pu, pr⟩) := ⟨rfl, rfl, rfl, fun cy Y k => by kernel_rfl⟩
noncomputable def F16 : FFn := ⟨69, [0, 1, 3, 44, 7, 8, 9, 2], (.seq (.reg [⟨.box 30 (.v 0), (.var 1), none, false, 0, (some 0)⟩,
    ⟨.mv (.k (.sl 0 [] true)), (.var 7), none, true, 1, none⟩]) (.seq (.reg [⟨.mkMap 81, .push, none, false, 0, (some 0)⟩,
    ⟨.alloc 81, (.var 2), none, false, 1, (some 1)⟩,
    ⟨.store 81 (.v 2) (.l 0), .none, none, false, 2, none⟩]) (.seq (.seq (.reg [⟨.load 30 (.v 1), .push, none, true, 0, none⟩,
    ⟨.call 28 [(.l 0)], .push, none, false, 1, (some 0)⟩]) (.block 0 (.range (.l 0) 2 [none, none, none, none, none, none, (some (.v 2)), none] [none, none, none, (some (.v 2)), none, none, none, none, none, none, none, none, none, none, none, none, none, none, none, none, none, none, none, none, none, none, none, none, none, none, none, none, none, none, none, none, none, none, none, none, none, none, none, none, none, none, none, none, none, none, none, none, none, none, none, none, none, none, none, none, none, none, none, none, none, none, none, none, none] [14, 15] (codeAt [1, 1, 0, 1, 0, 0] (bodyOf Tryz.f16)) (codeAt [1, 1, 0, 1, 0, 1] (bodyOf Tryz.f16))))) (.seq (.reg [⟨.mv (.k (.sl 0 [] true)), (.var 4), none, true, 0, none⟩]) (.seq (.seq (.reg [⟨.load 81 (.v 2), .push, none, true, 0, none⟩,
    ⟨.ext (.range 81) [(.l 0)], (.var 3), none, false, 1, (some 0)⟩]) (.block 4 (.loop (.seq (.reg [⟨.ext (.next false) [(.v 3)], .push, none, false, 0, none⟩,
    ⟨.extract (.l 0) 0, .push, none, true, 1, none⟩]) (.seq (.cond (.l 0) .skip (.exit 4)) (.block 5 (.seq (.reg [⟨.ext .entry [(.v 3)], .push, none, false, 0, none⟩,
    ⟨.extract (.l 0) 0, .push, none, true, 1, none⟩,
    ⟨.mv (.l 0), (.var 5), none, true, 2, none⟩]) (.reg [⟨.mv (.v 4), .push, none, true, 0, none⟩,
    ⟨.buildSlice 26 1 [(0, (.v 5))], .push, none, false, 2, (some 0)⟩,
    ⟨.append 26 26 (.l 1) (.l 0), .push, none, false, 3, (some 1)⟩,
    ⟨.mv (.l 0), (.var 4), none, true, 4, none⟩])))))))) (.seq (.reg [⟨.call 38 [(.v 4)], .push, none, false, 1, (some 0)⟩]) (.seq (.reg [⟨.alloc 50, (.var 6), none, false, 0, (some 0)⟩]) (.seq (.seq (.reg [⟨.call 39 [(.v 4)], .push, none, false, 1, (some 0)⟩]) (.block 6 (.range (.l 0) 3 [none, (some (.v 6)), none, (some (.v 2))] [none, none, none, (some (.v 2)), none, none, none, none, none, (some (.v 6)), none, none, none, none, none, none, none, none, none, none, none, none, none, none, none, none, none, none, none, none, none, none, none, none, none, none, none, none, none, none, none, none, none, none, none, none, none, none, none, none, none, none, none, none, none, none, none, none, none, none, none, none, none, none, none, none, none, none, none] [57] (codeAt [1, 1, 1, 1, 1, 1, 1, 0, 1, 0, 0] (bodyOf Tryz.f16)) (codeAt [1, 1, 1, 1, 1, 1, 1, 0, 1, 0, 1] (bodyOf Tryz.f16))))) (.seq (.reg [⟨.load 50 (.v 6), .push, none, true, 0, none⟩,
    ⟨.mv (.l 0), (.var 7), none, true, 1, none⟩]) .ret))))))))), [.tmp (.v 7)]⟩
noncomputable def G16 (E : Env) : ZFn := ⟨69, [0, 1, 3, 44, 7, 8, 9, 2], fun cy Y fuel =>
  (zSeq (zReg fun k => (zStep E (cy Y) ⟨.box 30 (.v 0), (.var 1), none, false, 0, (some 0)⟩) ((zDst (.var 7) (vMv (.k (.sl 0 [] true)))) k))
  (zSeq (zReg fun k => (zStep E (cy Y) ⟨.mkMap 81, .push, none, false, 0, (some 0)⟩) ((zStep E (cy Y) ⟨.alloc 81, (.var 2), none, false, 1, (some 1)⟩) ((zStep E (cy Y) ⟨.store 81 (.v 2) (.l 0), .none, none, false, 2, none⟩) k)))
  (zSeq (zSeq (zReg fun k => (zDstW .push (wLoad 5 true (.v 1))) ((zCall (cy Y) 28 [(.l 0)] .push) k))
  (zBlock 0 (zRange cy Y (.l 0) 2 [none, none, none, none, none, none, (some (.v 2)), none] [none, none, none, (some (.v 2)), none, none, none, none, none, none, none, none, none, none, none, none, none, none, none, none, none, none, none, none, none, none, none, none, none, none, none, none, none, none, none, none, none, none, none, none, none, none, none, none, none, none, none, none, none, none, none, none, none, none, none, none, none, none, none, none, none, none, none, none, none, none, none, none, none] [14, 15] (codeAt [1, 1, 0, 1, 0, 0] (bodyOf Tryz.f16)) (codeAt [1, 1, 0, 1, 0, 1] (bodyOf Tryz.f16)))))
  (zSeq (zReg fun k => (zDst (.var 4) (vMv (.k (.sl 0 [] true)))) k)
  (zSeq (zSeq (zReg fun k => (zDstW .push (wLoad 1 false (.v 2))) ((zStep E (cy Y) ⟨.ext (.range 81) [(.l 0)], (.var 3), none, false, 1, (some 0)⟩) k))
  (zBlock 4 (zLoop fuel (zSeq (zReg fun k => (zStep E (cy Y) ⟨.ext (.next false) [(.v 3)], .push, none, false, 0, none⟩) ((zDst .push (vExtract 0 (.l 0))) k))
  (zSeq (zCond (.l 0) zSkip (zExit 4))
  (zBlock 5 (zSeq (zReg fun k => (zStep E (cy Y) ⟨.ext .entry [(.v 3)], .push, none, false, 0, none⟩) ((zDst .push (vExtract 0 (.l 0))) ((zDst (.var 5) (vMv (.l 0))) k)))
  (zReg fun k => (zDst .push (vMv (.v 4))) ((zStep E (cy Y) ⟨.buildSlice 26 1 [(0, (.v 5))], .push, none, false, 2, (some 0)⟩) ((zStep E (cy Y) ⟨.append 26 26 (.l 1) (.l 0), .push, none, false, 3, (some 1)⟩) ((zDst (.var 4) (vMv (.l 0))) k)))))))))))
  (zSeq (zReg fun k => (zCall (cy Y) 38 [(.v 4)] .push) k)
  (zSeq (zReg fun k => (zStep E (cy Y) ⟨.alloc 50, (.var 6), none, false, 0, (some 0)⟩) k)
  (zSeq (zSeq (zReg fun k => (zCall (cy Y) 39 [(.v 4)] .push) k)
  (zBlock 6 (zRange cy Y (.l 0) 3 [none, (some (.v 6)), none, (some (.v 2))] [none, none, none, (some (.v 2)), none, none, none, none, none, (some (.v 6)), none, none, none, none, none, none, none, none, none, none, none, none, none, none, none, none, none, none, none, none, none, none, none, none, none, none, none, none, none, none, none, none, none, none, none, none, none, none, none, none, none, none, none, none, none, none, none, none, none, none, none, none, none, none, none, none, none, none, none] [57] (codeAt [1, 1, 1, 1, 1, 1, 1, 0, 1, 0, 0] (bodyOf Tryz.f16)) (codeAt [1, 1, 1, 1, 1, 1, 1, 0, 1, 0, 1] (bodyOf Tryz.f16)))))
  (zSeq (zReg fun k => (zDstW .push (wLoad 1 false (.v 6))) ((zDst (.var 7) (vMv (.l 0))) k))
  zRet))))))))), [.tmp (.v 7)]⟩
theorem G16_ok (fn : Nat → Option Func) (pu : Nat → Bool) (pr : Nat → List AV → Option (Heap → Option (Eff × Acc))) : ZOk ⟨Tryz.tyT, fn, pu, pr⟩ npT F16 (G16 ⟨Tryz.tyT, fn, pu, pr⟩) := ⟨rfl, rfl, rfl, fun cy Y k => by kernel_rfl⟩
noncomputable def F18 : FFn := ⟨13, [0, 1, 3, 2], (.seq (.reg [⟨.box 30 (.v 0), (.var 1), none, false, 0, (some 0)⟩,
    ⟨.mv (.k (.sl 0 [] true)), (.var 3), none, true, 1, none⟩]) (.seq (.reg [⟨.alloc 58, (.var 2), none, false, 0, (some 0)⟩]) (.seq (.seq (.reg [⟨.fieldAddr 30 (.v 1) 3, .push, none, true, 0, none⟩,
    ⟨.load 27 (.l 0), .push, none, true, 1, none⟩,
    ⟨.call 40 [(.l 0)], .push, none, false, 2, (some 0)⟩]) (.block 0 (.range (.l 0) 4 [none, (some (.v 2)), none] [none, none, none, (some (.v 2)), none, none, none, none, none, none, none, none, none] [8] (codeAt [1, 1, 0, 1, 0, 0] (bodyOf Tryz.f18)) (codeAt [1, 1, 0, 1, 0, 1] (bodyOf Tryz.f18))))) (.seq (.reg [⟨.load 58 (.v 2), .push, none, true, 0, none⟩,
    ⟨.mv (.l 0), (.var 3), none, true, 1, none⟩]) .ret)))), [.tmp (.v 3)]⟩
noncomputable def G18 (E : Env) : ZFn := ⟨13, [0, 1, 3, 2], fun cy Y fuel =>
  (zSeq (zReg fun k => (zStep E (cy Y) ⟨.box 30 (.v 0), (.var 1), none, false, 0, (some 0)⟩) ((zDst (.var 3) (vMv (.k (.sl 0 [] true)))) k))
  (zSeq (zReg fun k => (zStep E (cy Y) ⟨.alloc 58, (.var 2), none, false, 0, (some 0)⟩) k)
  (zSeq (zSeq (zReg fun k => (zDst .push (vFieldAddr 3 (.v 1))) ((zDstW .push (wLoad 1 false (.l 0))) ((zCall (cy Y) 40 [(.l 0)] .push) k)))
  (zBlock 0 (zRange cy Y (.l 0) 4 [none, (some (.v 2)), none] [none, none, none, (some (.v 2)), none, none, none, none, none, none, none, none, none] [8] (codeAt [1, 1, 0, 1, 0, 0] (bodyOf Tryz.f18)) (codeAt [1, 1, 0, 1, 0, 1] (bodyOf Tryz.f18)))))
  (zSeq (zReg fun k => (zDstW .push (wLoad 1 false (.v 2))) ((zDst (.var 3) (vMv (.l 0))) k))
  zRet)))), [.tmp (.v 3)]⟩
theorem G18_ok (fn : Nat → Option Func) (pu : Nat → Bool) (pr : Nat → List AV → Option (Heap → Option (Eff × Acc))) : ZOk ⟨Tryz.tyT, fn, pu, pr⟩ npT F18 (G18 ⟨Tryz.tyT, fn, pu, pr⟩) := ⟨rfl, rfl, rfl, fun cy Y k => by kernel_rfl⟩
noncomputable def F20 : FFn := ⟨21, [0, 1, 2, 3, 4, 5, 7, 8, 6], (.seq (.reg [⟨.box 24 (.v 0), (.var 3), none, false, 0, (some 0)⟩,
    ⟨.box 30 (.v 1), (.var 4), none, false, 1, (some 1)⟩,
    ⟨.box 30 (.v 2), (.var 5), none, false, 2, (some 2)⟩,
    ⟨.mv (.k (.bool false)), (.var 8), none, true, 3, none⟩]) (.seq (.reg [⟨.load 24 (.v 3), .push, none, true, 0, none⟩,
    ⟨.load 30 (.v 4), .push, none, true, 1, none⟩,
    ⟨.load 30 (.v 5), .push, none, true, 2, none⟩,
    ⟨.call 34 [(.l 2), (.l 1), (.l 0)], .push, none, false, 3, (some 0)⟩,
    ⟨.extract (.l 0) 0, .push, none, true, 5, none⟩,
    ⟨.extract (.l 1) 1, .push, none, true, 6, none⟩,
    ⟨.mv (.l 1), (.var 6), none, true, 7, none⟩,
    ⟨.mv (.l 0), (.var 7), none, true, 8, none⟩]) (.seq (.reg [⟨.mv (.v 7), .push, (some ((.v 6), true)), true, 2, none⟩,
    ⟨.bin .eql 3 false true (.l 0) (.k (.int .i64 0)), .push, (some ((.v 6), true)), false, 3, none⟩,
    ⟨.pick (.v 6) (.l 0) (.k (.bool false)), .push, none, true, 4, none⟩,
    ⟨.mv (.l 0), (.var 8), none, true, 5, none⟩]) .ret))), [.tmp (.v 8)]⟩
noncomputable def G20 (E : Env) : ZFn := ⟨21, [0, 1, 2, 3, 4, 5, 7, 8, 6], fun cy Y fuel =>
  (zSeq (zReg fun k => (zStep E (cy Y) ⟨.box 24 (.v 0), (.var 3), none, false, 0, (some 0)⟩) ((zStep E (cy Y) ⟨.box 30 (.v 1), (.var 4), none, false, 1, (some 1)⟩) ((zStep E (cy Y) ⟨.box 30 (.v 2), (.var 5), none, false, 2, (some 2)⟩) ((zDst (.var 8) (vMv (.k (.bool false)))) k))))
  (zSeq (zReg fun k => (zDstW .push (wLoad 2 true (.v 3))) ((zDstW .push (wLoad 5 true (.v 4))) ((zDstW .push (wLoad 5 true (.v 5))) ((zCall (cy Y) 34 [(.l 2), (.l 1), (.l 0)] .push) ((zDst .push (vExtract 0 (.l 0))) ((zDst .push (vExtract 1 (.l 1))) ((zDst (.var 6) (vMv (.l 1))) ((zDst (.var 7) (vMv (.l 0))) k))))))))
  (zSeq (zReg fun k => (zG (.v 6) true .push (zDst .push (vMv (.v 7)))) ((zG (.v 6) true .push (zDst .push (vInt E fEql .eql 3 false true (.l 0) (.k (.int .i64 0))))) ((zDst .push (vPick (.v 6) (.l 0) (.k (.bool false)))) ((zDst (.var 8) (vMv (.l 0))) k))))
  zRet))), [.tmp (.v 8)]⟩
theorem G20_ok (fn : Nat → Option Func) (pu : Nat → Bool) (pr : Nat → List AV → Option (Heap → Option (Eff × Acc))) : ZOk ⟨Tryz.tyT, fn, pu, pr⟩ npT F20 (G20 ⟨Tryz.tyT, fn, pu, pr⟩) := ⟨rfl, rfl, rfl, fun cy Y k => by kernel_rfl⟩
noncomputable def F21 : FFn := ⟨12, [0, 1, 2, 3, 4], (.seq (.reg [⟨.box 24 (.v 0), (.var 2), none, false, 0, (some 0)⟩,
    ⟨.box 30 (.v 1), (.var 3), none, false, 1, (some 1)⟩,
    ⟨.mv (.k (.bool false)), (.var 4), none, true, 2, none⟩]) (.seq (.reg [⟨.load 24 (.v 2), .push, none, true, 0, none⟩,
    ⟨.call 43 [(.l 0)], .push, none, false, 1, (some 0)⟩,
    ⟨.load 24 (.v 2), .push, (some ((.l 0), true)), true, 3, none⟩,
    ⟨.load 30 (.v 3), .push, (some ((.l 1), true)), true, 4, none⟩,
    ⟨.call 44 [(.l 1), (.l 0)], .push, (some ((.l 2), true)), false, 5, (some 1)⟩,
    ⟨.pick (.l 3) (.l 0) (.k (.bool false)), .push, none, true, 6, none⟩,
    ⟨.mv (.l 0), (.var 4), none, true, 7, none⟩]) .ret)), [.tmp (.v 4)]⟩
noncomputable def G21 (E : Env) : ZFn := ⟨12, [0, 1, 2, 3, 4], fun cy Y fuel =>
  (zSeq (zReg fun k => (zStep E (cy Y) ⟨.box 24 (.v 0), (.var 2), none, false, 0, (some 0)⟩) ((zStep E (cy Y) ⟨.box 30 (.v 1), (.var 3), none, false, 1, (some 1)⟩) ((zDst (.var 4) (vMv (.k (.bool false)))) k)))
  (zSeq (zReg fun k => (zDstW .push (wLoad 2 true (.v 2))) ((zCall (cy Y) 43 [(.l 0)] .push) ((zG (.l 0) true .push (zDstW .push (wLoad 2 true (.v 2)))) ((zG (.l 1) true .push (zDstW .push (wLoad 5 true (.v 3)))) ((zG (.l 2) true .push (zCall (cy Y) 44 [(.l 1), (.l 0)] .push)) ((zDst .push (vPick (.l 3) (.l 0) (.k (.bool false)))) ((zDst (.var 4) (vMv (.l 0))) k)))))))
  zRet)), [.tmp (.v 4)]⟩
theorem G21_ok (fn : Nat → Option Func) (pu : Nat → Bool) (pr : Nat → List AV → Option (Heap → Option (Eff × Acc))) : ZOk ⟨Tryz.tyT, fn, pu, pr⟩ npT F21 (G21 ⟨Tryz.tyT, fn, pu, pr⟩) := ⟨rfl, rfl, rfl, fun cy Y k => by kernel_rfl⟩
noncomputable def F22 : FFn := ⟨13, [0, 3, 1, 2], (.seq (.reg [⟨.box 24 (.v 0), (.var 2), none, false, 0, (some 0)⟩,
    ⟨.alloc 24, (.var 3), none, false, 1, (some 1)⟩]) (.seq (.reg [⟨.build 24 [(0, (.k (.int .i64 7)))], .push, none, false, 0, none⟩,
    ⟨.buildSlice 22 1 [(0, (.l 0))], .push, none, false, 1, (some 0)⟩,
    ⟨.build 24 [(0, (.k (.int .i64 4))), (1, (.l 0))], .push, none, false, 2, none⟩,
    ⟨.alloc 24, (.var 1), none, false, 3, (some 1)⟩,
    ⟨.store 24 (.v 1) (.l 0), .none, none, false, 4, none⟩]) (.seq (.reg [⟨.load 24 (.v 1), .push, none, true, 0, none⟩,
    ⟨.load 24 (.v 2), .push, none, true, 1, none⟩,
    ⟨.buildSlice 22 2 [(0, (.l 1)), (1, (.l 0))], .push, none, false, 2, (some 0)⟩,
    ⟨.build 24 [(0, (.k (.int .i64 5))), (1, (.l 0))], .push, none, false, 3, none⟩,
    ⟨.buildSlice 22 1 [(0, (.l 0))], .push, none, false, 4, (some 1)⟩,
    ⟨.build 24 [(0, (.k (.int .i64 8))), (1, (.l 0))], .push, none, false, 5, none⟩,
    ⟨.store 24 (.v 3) (.l 0), .none, none, false, 6, none⟩]) .ret))), [.cell (.v 3) 24]⟩
noncomputable def G22 (E : Env) : ZFn := ⟨13, [0, 3, 1, 2], fun cy Y fuel =>
  (zSeq (zReg fun k => (zStep E (cy Y) ⟨.box 24 (.v 0), (.var 2), none, false, 0, (some 0)⟩) ((zStep E (cy Y) ⟨.alloc 24, (.var 3), none, false, 1, (some 1)⟩) k))
  (zSeq (zReg fun k => (zStep E (cy Y) ⟨.build 24 [(0, (.k (.int .i64 7)))], .push, none, false, 0, none⟩) ((zStep E (cy Y) ⟨.buildSlice 22 1 [(0, (.l 0))], .push, none, false, 1, (some 0)⟩) ((zStep E (cy Y) ⟨.build 24 [(0, (.k (.int .i64 4))), (1, (.l 0))], .push, none, false, 2, none⟩) ((zStep E (cy Y) ⟨.alloc 24, (.var 1), none, false, 3, (some 1)⟩) ((zStep E (cy Y) ⟨.store 24 (.v 1) (.l 0), .none, none, false, 4, none⟩) k)))))
  (zSeq (zReg fun k => (zDstW .push (wLoad 2 true (.v 1))) ((zDstW .push (wLoad 2 true (.v 2))) ((zStep E (cy Y) ⟨.buildSlice 22 2 [(0, (.l 1)), (1, (.l 0))], .push, none, false, 2, (some 0)⟩) ((zStep E (cy Y) ⟨.build 24 [(0, (.k (.int .i64 5))), (1, (.l 0))], .push, none, false, 3, none⟩) ((zStep E (cy Y) ⟨.buildSlice 22 1 [(0, (.l 0))], .push, none, false, 4, (some 1)⟩) ((zStep E (cy Y) ⟨.build 24 [(0, (.k (.int .i64 8))), (1, (.l 0))], .push, none, false, 5, none⟩) ((zStep E (cy Y) ⟨.store 24 (.v 3) (.l 0), .none, none, false, 6, none⟩) k)))))))
  zRet))), [.cell (.v 3) 24]⟩
theorem G22_ok (fn : Nat → Option Func) (pu : Nat → Bool) (pr : Nat → List AV → Option (Heap → Option (Eff × Acc))) : ZOk ⟨Tryz.tyT, fn, pu, pr⟩ npT F22 (G22 ⟨Tryz.tyT, fn, pu, pr⟩) := ⟨rfl, rfl, rfl, fun cy Y k => by kernel_rfl⟩
noncomputable def F23 : FFn := ⟨45, [0, 7, 6, 5, 4, 3, 2], (.seq (.reg [⟨.mv (.k (.bool false)), (.var 6), none, true, 0, none⟩]) (.seq (.seq (.reg [⟨.mv (.v 0), (.var 3), none, true, 0, none⟩,
    ⟨.len 50 (.v 3), (.var 2), none, false, 1, none⟩,
    ⟨.mv (.k (.int .i64 0)), (.var 1), none, true, 2, none⟩]) (.block 0 (.loop (.seq (.reg [⟨.bin .lss 3 false false (.v 1) (.v 2), .push, none, false, 0, none⟩]) (.seq (.cond (.l 0) .skip (.exit 0)) (.seq (.block 1 (.seq (.reg [⟨.indexAddr 50 (.v 3) (.v 1), .push, none, true, 1, none⟩,
    ⟨.load 55 (.l 0), .push, none, true, 2, none⟩,
    ⟨.alloc 55, (.var 4), none, false, 3, (some 0)⟩,
    ⟨.mv (.v 1), (.var 5), none, true, 4, none⟩,
    ⟨.store 55 (.v 4) (.l 0), .none, none, false, 5, none⟩]) (.seq (.dreg 4 [0, 1, 3, 7, 15, 31, 63, 127, 255, 511, 255, 255, 2303, 7423, 15615, 31999, 65535, 131071, 262143, 524287, 1048575, 1048575, 3145727, 8388607, 16777215, 33554431, 67108863, 134217727, 134217727, 402653183, 1073741823, 2147483647] [⟨.fieldAddr 55 (.v 4) 0, .push, none, true, 0, none⟩,
    ⟨.load 9 (.l 0), .push, none, true, 1, none⟩,
    ⟨.len 9 (.l 0), .push, none, false, 2, none⟩,
    ⟨.bin .gtr 3 false true (.l 0) (.k (.int .i64 8)), .push, none, false, 3, none⟩,
    ⟨.mv (.v 5), .push, (some ((.l 0), false)), true, 5, none⟩,
    ⟨.bin .gtr 3 false true (.l 0) (.k (.int .i64 0)), .push, (some ((.l 1), false)), false, 6, none⟩,
    ⟨.mv (.l 0), .push, (some ((.l 2), false)), true, 7, none⟩,
    ⟨.fieldAddr 55 (.v 4) 0, .push, (some ((.l 0), true)), true, 8, none⟩,
    ⟨.load 9 (.l 0), .push, (some ((.l 1), true)), true, 9, none⟩,
    ⟨.mv (.v 0), .push, (some ((.l 2), true)), true, 10, none⟩,
    ⟨.mv (.v 5), .push, (some ((.l 3), true)), true, 11, none⟩,
    ⟨.bin .sub 3 false true (.l 0) (.k (.int .i64 1)), .push, (some ((.l 4), true)), false, 12, none⟩,
    ⟨.indexAddr 50 (.l 2) (.l 0), .push, (some ((.l 5), true)), true, 13, none⟩,
    ⟨.fieldAddr 55 (.l 0) 0, .push, (some ((.l 6), true)), true, 14, none⟩,
    ⟨.load 9 (.l 0), .push, (some ((.l 7), true)), true, 15, none⟩,
    ⟨.bin .leq 9 false false (.l 6) (.l 0), .push, (some ((.l 8), true)), false, 16, none⟩,
    ⟨.pick (.l 9) (.l 0) (.k (.bool false)), .push, (some ((.l 12), false)), true, 17, none⟩,
    ⟨.pick (.l 13) (.k (.bool true)) (.l 0), .push, none, true, 18, none⟩,
    ⟨.call 45 [], .push, (some ((.l 0), false)), false, 20, (some 0)⟩,
    ⟨.fieldAddr 55 (.v 4) 1, .push, (some ((.l 1), false)), true, 21, none⟩,
    ⟨.load 30 (.l 0), .push, (some ((.l 2), false)), true, 22, none⟩,
    ⟨.call 21 [(.l 2), (.l 0)], .push, (some ((.l 3), false)), false, 23, (some 1)⟩,
    ⟨.un .not (.l 0), .push, (some ((.l 4), false)), false, 24, none⟩,
    ⟨.pick (.l 5) (.k (.bool true)) (.l 0), .push, none, true, 25, none⟩,
    ⟨.call 45 [], .push, (some ((.l 0), false)), false, 27, (some 2)⟩,
    ⟨.fieldAddr 55 (.v 4) 1, .push, (some ((.l 1), false)), true, 28, none⟩,
    ⟨.load 30 (.l 0), .push, (some ((.l 2), false)), true, 29, none⟩,
    ⟨.call 46 [(.l 2), (.l 0)], .push, (some ((.l 3), false)), false, 30, (some 3)⟩,
    ⟨.pick (.l 4) (.k (.bool true)) (.l 0), .push, none, true, 31, none⟩]) (.cond (.l 0) (.seq (.reg [⟨.mv (.k (.bool false)), (.var 6), none, true, 0, none⟩]) .ret) .skip)))) (.reg [⟨.bin .add 3 false true (.v 1) (.k (.int .i64 1)), .push, none, false, 0, none⟩,
    ⟨.mv (.l 0), (.var 1), none, true, 1, none⟩]))))))) (.seq (.reg [⟨.mv (.k (.bool true)), (.var 6), none, true, 0, none⟩]) .ret))), [.tmp (.v 6)]⟩
noncomputable def G23 (E : Env) : ZFn := ⟨45, [0, 7, 6, 5, 4, 3, 2], fun cy Y fuel =>
  (zSeq (zReg fun k => (zDst (.var 6) (vMv (.k (.bool false)))) k)
  (zSeq (zSeq (zReg fun k => (zDst (.var 3) (vMv (.v 0))) ((zDst (.var 2) (vLenL (.v 3))) ((zDst (.var 1) (vMv (.k (.int .i64 0)))) k)))
  (zBlock 0 (zLoop fuel (zSeq (zReg fun k => (zDst .push (vInt E fLss .lss 3 false false (.v 1) (.v 2))) k)
  (zSeq (zCond (.l 0) zSkip (zExit 0))
  (zSeq (zBlock 1 (zSeq (zReg fun k => (zDst .push (vIndexAddr 6 (.v 3) (.v 1))) ((zDstW .push (wLoad 6 true (.l 0))) ((zStep E (cy Y) ⟨.alloc 55, (.var 4), none, false, 3, (some 0)⟩) ((zDst (.var 5) (vMv (.v 1))) ((zStep E (cy Y) ⟨.store 55 (.v 4) (.l 0), .none, none, false, 5, none⟩) k)))))
  (zSeq (zDreg 4 fun n0 k => (fun k sp => zDst .push (vFieldAddr 0 (.v 4)) (k sp)) ((zDstWD [0, 1, 3, 7, 15, 31, 63, 127, 255, 511, 255, 255, 2303, 7423, 15615, 31999, 65535, 131071, 262143, 524287, 1048575, 1048575, 3145727, 8388607, 16777215, 33554431, 67108863, 134217727, 134217727, 402653183, 1073741823, 2147483647] 1 .push (wLoad 1 false (.l 0))) ((fun k sp => zDst .push (vLenS (.l 0)) (k sp)) ((fun k sp => zDst .push (vInt E fGtr .gtr 3 false true (.l 0) (.k (.int .i64 8))) (k sp)) ((zGD (.l 0) false .push (fun k sp => zDst .push (vMv (.v 5)) (k sp))) ((zGD (.l 1) false .push (fun k sp => zDst .push (vInt E fGtr .gtr 3 false true (.l 0) (.k (.int .i64 0))) (k sp))) ((zGD (.l 2) false .push (fun k sp => zDst .push (vMv (.l 0)) (k sp))) ((zGD (.l 0) true .push (fun k sp => zDst .push (vFieldAddr 0 (.v 4)) (k sp))) ((zGD (.l 1) true .push (zDstWD [0, 1, 3, 7, 15, 31, 63, 127, 255, 511, 255, 255, 2303, 7423, 15615, 31999, 65535, 131071, 262143, 524287, 1048575, 1048575, 3145727, 8388607, 16777215, 33554431, 67108863, 134217727, 134217727, 402653183, 1073741823, 2147483647] 9 .push (wLoad 1 false (.l 0)))) ((zGD (.l 2) true .push (fun k sp => zDst .push (vMv (.v 0)) (k sp))) ((zGD (.l 3) true .push (fun k sp => zDst .push (vMv (.v 5)) (k sp))) ((zGD (.l 4) true .push (fun k sp => zDst .push (vInt E fSub .sub 3 false true (.l 0) (.k (.int .i64 1))) (k sp))) ((zGD (.l 5) true .push (fun k sp => zDst .push (vIndexAddr 6 (.l 2) (.l 0)) (k sp))) ((zGD (.l 6) true .push (fun k sp => zDst .push (vFieldAddr 0 (.l 0)) (k sp))) ((zGD (.l 7) true .push (zDstWD [0, 1, 3, 7, 15, 31, 63, 127, 255, 511, 255, 255, 2303, 7423, 15615, 31999, 65535, 131071, 262143, 524287, 1048575, 1048575, 3145727, 8388607, 16777215, 33554431, 67108863, 134217727, 134217727, 402653183, 1073741823, 2147483647] 15 .push (wLoad 1 false (.l 0)))) ((zGD (.l 8) true .push (fun k sp => zDst .push (vInt E (fGen .leq) .leq 9 false false (.l 6) (.l 0)) (k sp))) ((zGD (.l 12) false .push (fun k sp => zDst .push (vPick (.l 9) (.l 0) (.k (.bool false))) (k sp))) ((fun k sp => zDst .push (vPick (.l 13) (.k (.bool true)) (.l 0)) (k sp)) ((zGD (.l 0) false .push (zCallD (cy Y) [0, 1, 3, 7, 15, 31, 63, 127, 255, 511, 255, 255, 2303, 7423, 15615, 31999, 65535, 131071, 262143, 524287, 1048575, 1048575, 3145727, 8388607, 16777215, 33554431, 67108863, 134217727, 134217727, 402653183, 1073741823, 2147483647] 20 45 [] .push)) ((zGD (.l 1) false .push (fun k sp => zDst .push (vFieldAddr 1 (.v 4)) (k sp))) ((zGD (.l 2) false .push (zDstWD [0, 1, 3, 7, 15, 31, 63, 127, 255, 511, 255, 255, 2303, 7423, 15615, 31999, 65535, 131071, 262143, 524287, 1048575, 1048575, 3145727, 8388607, 16777215, 33554431, 67108863, 134217727, 134217727, 402653183, 1073741823, 2147483647] 22 .push (wLoad 5 true (.l 0)))) ((zGD (.l 3) false .push (zCallD (cy Y) [0, 1, 3, 7, 15, 31, 63, 127, 255, 511, 255, 255, 2303, 7423, 15615, 31999, 65535, 131071, 262143, 524287, 1048575, 1048575, 3145727, 8388607, 16777215, 33554431, 67108863, 134217727, 134217727, 402653183, 1073741823, 2147483647] 23 21 [(.l 2), (.l 0)] .push)) ((zGD (.l 4) false .push (fun k sp => zDst .push (vNot (.l 0)) (k sp))) ((fun k sp => zDst .push (vPick (.l 5) (.k (.bool true)) (.l 0)) (k sp)) ((zGD (.l 0) false .push (zCallD (cy Y) [0, 1, 3, 7, 15, 31, 63, 127, 255, 511, 255, 255, 2303, 7423, 15615, 31999, 65535, 131071, 262143, 524287, 1048575, 1048575, 3145727, 8388607, 16777215, 33554431, 67108863, 134217727, 134217727, 402653183, 1073741823, 2147483647] 27 45 [] .push)) ((zGD (.l 1) false .push (fun k sp => zDst .push (vFieldAddr 1 (.v 4)) (k sp))) ((zGD (.l 2) false .push (zDstWD [0, 1, 3, 7, 15, 31, 63, 127, 255, 511, 255, 255, 2303, 7423, 15615, 31999, 65535, 131071, 262143, 524287, 1048575, 1048575, 3145727, 8388607, 16777215, 33554431, 67108863, 134217727, 134217727, 402653183, 1073741823, 2147483647] 29 .push (wLoad 5 true (.l 0)))) ((zGD (.l 3) false .push (zCallD (cy Y) [0, 1, 3, 7, 15, 31, 63, 127, 255, 511, 255, 255, 2303, 7423, 15615, 31999, 65535, 131071, 262143, 524287, 1048575, 1048575, 3145727, 8388607, 16777215, 33554431, 67108863, 134217727, 134217727, 402653183, 1073741823, 2147483647] 30 46 [(.l 2), (.l 0)] .push)) ((fun k sp => zDst .push (vPick (.l 4) (.k (.bool true)) (.l 0)) (k sp)) k)))))))))))))))))))))))))))))
  (zCond (.l 0) (zSeq (zReg fun k => (zDst (.var 6) (vMv (.k (.bool false)))) k)
  zRet) zSkip))))
  (zReg fun k => (zDst .push (vInt E fAdd .add 3 false true (.v 1) (.k (.int .i64 1)))) ((zDst (.var 1) (vMv (.l 0))) k))))))))
  (zSeq (zReg fun k => (zDst (.var 6) (vMv (.k (.bool true)))) k)
  zRet))), [.tmp (.v 6)]⟩
theorem G23_ok (fn : Nat → Option Func) (pu : Nat → Bool) (pr : Nat → List AV → Option (Heap → Option (Eff × Acc))) : ZOk ⟨Tryz.tyT, fn, pu, pr⟩ npT F23 (G23 ⟨Tryz.tyT, fn, pu, pr⟩) := ⟨rfl, rfl, rfl, fun cy Y k => by kernel_rfl⟩
noncomputable def F24 : FFn := ⟨21, [0, 1, 5, 4], (.seq (.reg [⟨.mv (.k (.sl 0 [] true)), (.var 3), none, true, 0, none⟩]) (.seq (.reg [⟨.call 47 [(.v 0), (.v 1)], .push, none, false, 2, (some 0)⟩,
    ⟨.mv (.l 0), (.var 2), none, true, 3, none⟩]) (.seq (.seq (.reg [⟨.bin .add 25 false true (.v 2) (.k (.int .u64 1)), .push, none, false, 1, none⟩,
    ⟨.bin .gtr 25 false false (.l 0) (.v 2), .push, none, false, 3, none⟩]) (.cond (.l 0) (.reg [⟨.mv (.v 2), .push, none, true, 0, none⟩,
    ⟨.bin .add 25 false true (.l 0) (.k (.int .u64 1)), .push, none, false, 1, none⟩,
    ⟨.mv (.l 0), (.var 2), none, true, 2, none⟩]) .skip)) (.seq (.reg [⟨.build 57 [(0, (.v 1)), (1, (.v 2))], .push, none, false, 3, none⟩,
    ⟨.buildSlice 58 1 [(0, (.l 0))], .push, none, false, 4, (some 0)⟩,
    ⟨.call 36 [(.v 0), (.l 0)], .push, none, false, 5, (some 1)⟩,
    ⟨.mv (.l 0), (.var 3), none, true, 6, none⟩]) .ret)))), [.tmp (.v 3)]⟩
noncomputable def G24 (E : Env) : ZFn := ⟨21, [0, 1, 5, 4], fun cy Y fuel =>
  (zSeq (zReg fun k => (zDst (.var 3) (vMv (.k (.sl 0 [] true)))) k)
  (zSeq (zReg fun k => (zCall (cy Y) 47 [(.v 0), (.v 1)] .push) ((zDst (.var 2) (vMv (.l 0))) k))
  (zSeq (zSeq (zReg fun k => (zDst .push (vInt E fAdd .add 25 false true (.v 2) (.k (.int .u64 1)))) ((zDst .push (vInt E fGtr .gtr 25 false false (.l 0) (.v 2))) k))
  (zCond (.l 0) (zReg fun k => (zDst .push (vMv (.v 2))) ((zDst .push (vInt E fAdd .add 25 false true (.l 0) (.k (.int .u64 1)))) ((zDst (.var 2) (vMv (.l 0))) k))) zSkip))
  (zSeq (zReg fun k => (zStep E (cy Y) ⟨.build 57 [(0, (.v 1)), (1, (.v 2))], .push, none, false, 3, none⟩) ((zStep E (cy Y) ⟨.buildSlice 58 1 [(0, (.l 0))], .push, none, false, 4, (some 0)⟩) ((zCall (cy Y) 36 [(.v 0), (.l 0)] .push) ((zDst (.var 3) (vMv (.l 0))) k))))
  zRet)))), [.tmp (.v 3)]⟩
theorem G24_ok (fn : Nat → Option Func) (pu : Nat → Bool) (pr : Nat → List AV → Option (Heap → Option (Eff × Acc))) : ZOk ⟨Tryz.tyT, fn, pu, pr⟩ npT F24 (G24 ⟨Tryz.tyT, fn, pu, pr⟩) := ⟨rfl, rfl, rfl, fun cy Y k => by kernel_rfl⟩
noncomputable def F25 : FFn := ⟨8, [0, 1, 4], (.seq (.reg [⟨.mv (.k (.bool false)), (.var 2), none, true, 0, none⟩]) (.seq (.reg [⟨.call 48 [(.v 0), (.v 1)], .push, none, false, 2, (some 0)⟩,
    ⟨.mv (.l 0), (.var 2), none, true, 3, none⟩]) .ret)), [.tmp (.v 2)]⟩
noncomputable def G25 (E : Env) : ZFn := ⟨8, [0, 1, 4], fun cy Y fuel =>
  (zSeq (zReg fun k => (zDst (.var 2) (vMv (.k (.bool false)))) k)
  (zSeq (zReg fun k => (zCall (cy Y) 48 [(.v 0), (.v 1)] .push) ((zDst (.var 2) (vMv (.l 0))) k))
  zRet)), [.tmp (.v 2)]⟩
theorem G25_ok (fn : Nat → Option Func) (pu : Nat → Bool) (pr : Nat → List AV → Option (Heap → Option (Eff × Acc))) : ZOk ⟨Tryz.tyT, fn, pu, pr⟩ npT F25 (G25 ⟨Tryz.tyT, fn, pu, pr⟩) := ⟨rfl, rfl, rfl, fun cy Y k => by kernel_rfl⟩
noncomputable def F26 : FFn := ⟨4, [0, 1, 2], (.seq (.reg [⟨.box 50 (.v 0), (.var 1), none, false, 0, (some 0)⟩,
    ⟨.mv (.k .nilFunc), (.var 2), none, true, 1, none⟩]) (.seq (.reg [⟨.mkFunc 49 [(.v 1)], .push, none, false, 0, none⟩,
    ⟨.mv (.l 0), (.var 2), none, true, 1, none⟩]) .ret)), [.tmp (.v 2)]⟩
noncomputable def G26 (E : Env) : ZFn := ⟨4, [0, 1, 2], fun cy Y fuel =>
  (zSeq (zReg fun k => (zStep E (cy Y) ⟨.box 50 (.v 0), (.var 1), none, false, 0, (some 0)⟩) ((zDst (.var 2) (vMv (.k .nilFunc))) k))
  (zSeq (zReg fun k => (zStep E (cy Y) ⟨.mkFunc 49 [(.v 1)], .push, none, false, 0, none⟩) ((zDst (.var 2) (vMv (.l 0))) k))
  zRet)), [.tmp (.v 2)]⟩
theorem G26_ok (fn : Nat → Option Func) (pu : Nat → Bool) (pr : Nat → List AV → Option (Heap → Option (Eff × Acc))) : ZOk ⟨Tryz.tyT, fn, pu, pr⟩ npT F26 (G26 ⟨Tryz.tyT, fn, pu, pr⟩) := ⟨rfl, rfl, rfl, fun cy Y k => by kernel_rfl⟩
noncomputable def F27 : FFn := ⟨126, [0, 1, 2, 3, 16, 17, 4, 5, 6, 8, 9, 11, 10, 12, 13, 14, 7], (.seq (.reg [⟨.box 24 (.v 0), (.var 3), none, false, 0, (some 0)⟩,
    ⟨.box 30 (.v 1), (.var 6), none, false, 1, (some 1)⟩,
    ⟨.box 30 (.v 2), (.var 7), none, false, 2, (some 2)⟩,
    ⟨.alloc 30, (.var 8), none, false, 3, (some 3)⟩,
    ⟨.mv (.k (.bool false)), (.var 16), none, true, 4, none⟩]) (.seq (.seq (.reg [⟨.fieldAddr 24 (.v 3) 0, .push, none, true, 0, none⟩,
    ⟨.load 3 (.l 0), (.var 4), none, true, 1, none⟩]) (.block 0 (.seq (.seq (.reg [⟨.bin .eql 3 false true (.v 4) (.k (.int .i64 1)), .push, none, false, 0, none⟩,
    ⟨.mv (.l 0), (.var 5), none, true, 1, none⟩]) (.cond (.v 5) .skip (.reg [⟨.bin .eql 3 false true (.v 4) (.k (.int .i64 2)), .push, none, false, 0, none⟩,
    ⟨.mv (.l 0), (.var 5), none, true, 1, none⟩]))) (.cond (.v 5) (.seq (.reg [⟨.fieldAddr 30 (.v 6) 0, .push, none, true, 0, none⟩,
    ⟨.load 25 (.l 0), .push, none, true, 1, none⟩,
    ⟨.fieldAddr 30 (.v 7) 0, .push, none, true, 2, none⟩,
    ⟨.load 25 (.l 0), .push, none, true, 3, none⟩,
    ⟨.most true [(.l 2), (.l 0)], .push, none, false, 4, none⟩,
    ⟨.build 30 [(0, (.l 0))], .push, none, false, 5, none⟩,
    ⟨.store 30 (.v 8) (.l 0), .none, none, false, 6, none⟩,
    ⟨.mv (.k (.bool true)), (.var 16), none, true, 7, none⟩]) .ret) (.seq (.reg [⟨.bin .eql 3 false true (.v 4) (.k (.int .i64 3)), .push, none, false, 0, none⟩,
    ⟨.mv (.l 0), .push, none, true, 1, none⟩]) (.cond (.l 0) (.seq (.reg [⟨.fieldAddr 30 (.v 6) 2, .push, none, true, 0, none⟩,
    ⟨.load 26 (.l 0), .push, none, true, 1, none⟩,
    ⟨.fieldAddr 30 (.v 7) 2, .push, none, true, 2, none⟩,
    ⟨.load 26 (.l 0), .push, none, true, 3, none⟩,
    ⟨.call 50 [(.l 2), (.l 0)], .push, none, false, 4, (some 0)⟩,
    ⟨.mv (.l 0), (.var 9), none, true, 5, none⟩]) (.seq (.reg [⟨.build 30 [(2, (.v 9))], .push, none, false, 1, none⟩,
    ⟨.len 26 (.v 9), .push, none, false, 3, none⟩,
    ⟨.bin .leq 3 false true (.l 0) (.k (.int .i64 40)), .push, none, false, 4, none⟩,
    ⟨.store 30 (.v 8) (.l 2), .none, none, false, 5, none⟩,
    ⟨.mv (.l 0), (.var 16), none, true, 6, none⟩]) .ret)) (.seq (.reg [⟨.bin .eql 3 false true (.v 4) (.k (.int .i64 4)), .push, none, false, 0, none⟩,
    ⟨.mv (.l 0), .push, none, true, 1, none⟩]) (.cond (.l 0) (.seq (.reg [⟨.load 24 (.v 3), .push, none, true, 0, none⟩,
    ⟨.load 30 (.v 6), .push, none, true, 1, none⟩,
    ⟨.load 30 (.v 7), .push, none, true, 2, none⟩,
    ⟨.call 51 [(.l 2), (.l 1), (.l 0)], .push, none, false, 3, (some 0)⟩,
    ⟨.extract (.l 0) 0, .push, none, true, 4, none⟩,
    ⟨.extract (.l 1) 1, .push, none, true, 5, none⟩,
    ⟨.store 30 (.v 8) (.l 1), .none, none, false, 6, none⟩,
    ⟨.mv (.l 0), (.var 16), none, true, 7, none⟩]) .ret) (.seq (.reg [⟨.bin .eql 3 false true (.v 4) (.k (.int .i64 5)), .push, none, false, 0, none⟩,
    ⟨.mv (.l 0), .push, none, true, 1, none⟩]) (.cond (.l 0) (.seq (.dreg 2 [0, 1, 3, 7, 0, 16, 48, 112, 0, 256, 768, 1792, 4095, 8191, 16383, 16383, 0, 98303, 262143] [⟨.fieldAddr 24 (.v 3) 1, .push, none, true, 0, none⟩,
    ⟨.load 22 (.l 0), .push, none, true, 1, none⟩,
    ⟨.indexAddr 22 (.l 0) (.k (.int .i64 0)), .push, none, true, 2, none⟩,
    ⟨.load 24 (.l 0), .push, none, true, 3, none⟩,
    ⟨.fieldAddr 30 (.v 6) 4, .push, none, true, 4, none⟩,
    ⟨.load 28 (.l 0), .push, none, true, 5, none⟩,
    ⟨.indexAddr 28 (.l 0) (.k (.int .i64 0)), .push, none, true, 6, none⟩,
    ⟨.load 30 (.l 0), .push, none, true, 7, none⟩,
    ⟨.fieldAddr 30 (.v 7) 4, .push, none, true, 8, none⟩,
    ⟨.load 28 (.l 0), .push, none, true, 9, none⟩,
    ⟨.indexAddr 28 (.l 0) (.k (.int .i64 0)), .push, none, true, 10, none⟩,
    ⟨.load 30 (.l 0), .push, none, true, 11, none⟩,
    ⟨.call 27 [(.l 8), (.l 4), (.l 0)], .push, none, false, 12, (some 0)⟩,
    ⟨.extract (.l 0) 0, .push, none, true, 14, none⟩,
    ⟨.extract (.l 1) 1, .push, none, true, 15, none⟩,
    ⟨.alloc 30, (.var 10), none, false, 16, (some 1)⟩,
    ⟨.store 30 (.v 10) (.l 1), .none, none, false, 17, none⟩,
    ⟨.mv (.l 0), (.var 12), none, true, 18, none⟩]) (.seq (.dreg 2 [0, 1, 3, 7, 0, 16, 48, 112, 0, 256, 768, 1792, 4095, 8191, 16383, 16383, 0, 98303, 262143] [⟨.fieldAddr 24 (.v 3) 1, .push, none, true, 0, none⟩,
    ⟨.load 22 (.l 0), .push, none, true, 1, none⟩,
    ⟨.indexAddr 22 (.l 0) (.k (.int .i64 1)), .push, none, true, 2, none⟩,
    ⟨.load 24 (.l 0), .push, none, true, 3, none⟩,
    ⟨.fieldAddr 30 (.v 6) 4, .push, none, true, 4, none⟩,
    ⟨.load 28 (.l 0), .push, none, true, 5, none⟩,
    ⟨.indexAddr 28 (.l 0) (.k (.int .i64 1)), .push, none, true, 6, none⟩,
    ⟨.load 30 (.l 0), .push, none, true, 7, none⟩,
    ⟨.fieldAddr 30 (.v 7) 4, .push, none, true, 8, none⟩,
    ⟨.load 28 (.l 0), .push, none, true, 9, none⟩,
    ⟨.indexAddr 28 (.l 0) (.k (.int .i64 1)), .push, none, true, 10, none⟩,
    ⟨.load 30 (.l 0), .push, none, true, 11, none⟩,
    ⟨.call 27 [(.l 8), (.l 4), (.l 0)], .push, none, false, 12, (some 0)⟩,
    ⟨.extract (.l 0) 0, .push, none, true, 14, none⟩,
    ⟨.extract (.l 1) 1, .push, none, true, 15, none⟩,
    ⟨.alloc 30, (.var 11), none, false, 16, (some 1)⟩,
    ⟨.store 30 (.v 11) (.l 1), .none, none, false, 17, none⟩,
    ⟨.mv (.l 0), (.var 13), none, true, 18, none⟩]) (.seq (.reg [⟨.load 30 (.v 10), .push, none, true, 0, none⟩,
    ⟨.load 30 (.v 11), .push, none, true, 1, none⟩,
    ⟨.buildSlice 28 2 [(0, (.l 1)), (1, (.l 0))], .push, none, false, 2, (some 0)⟩,
    ⟨.build 30 [(4, (.l 0))], .push, none, false, 3, none⟩,
    ⟨.mv (.v 13), .push, (some ((.v 12), true)), true, 6, none⟩,
    ⟨.pick (.v 12) (.l 0) (.k (.bool false)), .push, none, true, 7, none⟩,
    ⟨.store 30 (.v 8) (.l 2), .none, none, false, 8, none⟩,
    ⟨.mv (.l 0), (.var 16), none, true, 9, none⟩]) .ret))) (.seq (.reg [⟨.bin .eql 3 false true (.v 4) (.k (.int .i64 6)), .push, none, false, 0, none⟩,
    ⟨.mv (.l 0), .push, none, true, 1, none⟩]) (.cond (.l 0) (.seq (.reg [⟨.load 30 (.v 6), .push, none, true, 0, none⟩,
    ⟨.load 30 (.v 7), .push, none, true, 1, none⟩,
    ⟨.call 52 [(.l 1), (.l 0)], .push, none, false, 2, (some 0)⟩,
    ⟨.store 30 (.v 8) (.l 0), .none, none, false, 3, none⟩,
    ⟨.mv (.k (.bool true)), (.var 16), none, true, 4, none⟩]) .ret) (.seq (.reg [⟨.bin .eql 3 false true (.v 4) (.k (.int .i64 7)), .push, none, false, 0, none⟩,
    ⟨.mv (.l 0), .push, none, true, 1, none⟩]) (.cond (.l 0) (.seq (.reg [⟨.mv (.k (.sl 0 [] true)), (.var 14), none, true, 0, none⟩,
    ⟨.mv (.k (.sl 0 [] true)), (.var 15), none, true, 1, none⟩]) (.seq (.seq (.reg [⟨.fieldAddr 30 (.v 6) 3, .push, none, true, 0, none⟩,
    ⟨.load 27 (.l 0), .push, none, true, 1, none⟩,
    ⟨.len 27 (.l 0), .push, none, false, 2, none⟩,
    ⟨.bin .gtr 3 false true (.l 0) (.k (.int .i64 0)), .push, none, false, 3, none⟩]) (.cond (.l 0) (.reg [⟨.fieldAddr 30 (.v 6) 3, .push, none, true, 0, none⟩,
    ⟨.load 27 (.l 0), .push, none, true, 1, none⟩,
    ⟨.indexAddr 27 (.l 0) (.k (.int .i64 0)), .push, none, true, 2, none⟩,
    ⟨.load 58 (.l 0), .push, none, true, 3, none⟩,
    ⟨.mv (.l 0), (.var 14), none, true, 4, none⟩]) .skip)) (.seq (.seq (.reg [⟨.fieldAddr 30 (.v 7) 3, .push, none, true, 0, none⟩,
    ⟨.load 27 (.l 0), .push, none, true, 1, none⟩,
    ⟨.len 27 (.l 0), .push, none, false, 2, none⟩,
    ⟨.bin .gtr 3 false true (.l 0) (.k (.int .i64 0)), .push, none, false, 3, none⟩]) (.cond (.l 0) (.reg [⟨.fieldAddr 30 (.v 7) 3, .push, none, true, 0, none⟩,
    ⟨.load 27 (.l 0), .push, none, true, 1, none⟩,
    ⟨.indexAddr 27 (.l 0) (.k (.int .i64 0)), .push, none, true, 2, none⟩,
    ⟨.load 58 (.l 0), .push, none, true, 3, none⟩,
    ⟨.mv (.l 0), (.var 15), none, true, 4, none⟩]) .skip)) (.seq (.reg [⟨.call 53 [(.v 14), (.v 15)], .push, none, false, 2, (some 0)⟩,
    ⟨.call 35 [(.l 0)], .push, none, false, 3, (some 1)⟩,
    ⟨.call 53 [(.v 14), (.v 15)], .push, none, false, 6, (some 2)⟩,
    ⟨.len 58 (.l 0), .push, none, false, 7, none⟩,
    ⟨.bin .leq 3 false true (.l 0) (.k (.int .i64 40)), .push, none, false, 8, none⟩,
    ⟨.store 30 (.v 8) (.l 3), .none, none, false, 9, none⟩,
    ⟨.mv (.l 0), (.var 16), none, true, 10, none⟩]) .ret)))) .skip)))))))))))))) (.seq (.reg [⟨.load 24 (.v 3), .push, none, true, 0, none⟩,
    ⟨.load 30 (.v 6), .push, none, true, 1, none⟩,
    ⟨.load 30 (.v 7), .push, none, true, 2, none⟩,
    ⟨.call 54 [(.l 2), (.l 1), (.l 0)], .push, none, false, 3, (some 0)⟩,
    ⟨.extract (.l 0) 0, .push, none, true, 4, none⟩,
    ⟨.extract (.l 1) 1, .push, none, true, 5, none⟩,
    ⟨.store 30 (.v 8) (.l 1), .none, none, false, 6, none⟩,
    ⟨.mv (.l 0), (.var 16), none, true, 7, none⟩]) .ret))), [.cell (.v 8) 30, .tmp (.v 16)]⟩
noncomputable def G27 (E : Env) : ZFn := ⟨126, [0, 1, 2, 3, 16, 17, 4, 5, 6, 8, 9, 11, 10, 12, 13, 14, 7], fun cy Y fuel =>
  (zSeq (zReg fun k => (zStep E (cy Y) ⟨.box 24 (.v 0), (.var 3), none, false, 0, (some 0)⟩) ((zStep E (cy Y) ⟨.box 30 (.v 1), (.var 6), none, false, 1, (some 1)⟩) ((zStep E (cy Y) ⟨.box 30 (.v 2), (.var 7), none, false, 2, (some 2)⟩) ((zStep E (cy Y) ⟨.alloc 30, (.var 8), none, false, 3, (some 3)⟩) ((zDst (.var 16) (vMv (.k (.bool false)))) k)))))
  (zSeq (zSeq (zReg fun k => (zDst .push (vFieldAddr 0 (.v 3))) ((zDstW (.var 4) (wLoad 1 false (.l 0))) k))
  (zBlock 0 (zSeq (zSeq (zReg fun k => (zDst .push (vInt E fEql .eql 3 false true (.v 4) (.k (.int .i64 1)))) ((zDst (.var 5) (vMv (.l 0))) k))
  (zCond (.v 5) zSkip (zReg fun k => (zDst .push (vInt E fEql .eql 3 false true (.v 4) (.k (.int .i64 2)))) ((zDst (.var 5) (vMv (.l 0))) k))))
  (zCond (.v 5) (zSeq (zReg fun k => (zDst .push (vFieldAddr 0 (.v 6))) ((zDstW .push (wLoad 1 false (.l 0))) ((zDst .push (vFieldAddr 0 (.v 7))) ((zDstW .push (wLoad 1 false (.l 0))) ((zStep E (cy Y) ⟨.most true [(.l 2), (.l 0)], .push, none, false, 4, none⟩) ((zStep E (cy Y) ⟨.build 30 [(0, (.l 0))], .push, none, false, 5, none⟩) ((zStep E (cy Y) ⟨.store 30 (.v 8) (.l 0), .none, none, false, 6, none⟩) ((zDst (.var 16) (vMv (.k (.bool true)))) k))))))))
  zRet) (zSeq (zReg fun k => (zDst .push (vInt E fEql .eql 3 false true (.v 4) (.k (.int .i64 3)))) ((zDst .push (vMv (.l 0))) k))
  (zCond (.l 0) (zSeq (zReg fun k => (zDst .push (vFieldAddr 2 (.v 6))) ((zDstW .push (wLoad 1 false (.l 0))) ((zDst .push (vFieldAddr 2 (.v 7))) ((zDstW .push (wLoad 1 false (.l 0))) ((zCall (cy Y) 50 [(.l 2), (.l 0)] .push) ((zDst (.var 9) (vMv (.l 0))) k))))))
  (zSeq (zReg fun k => (zStep E (cy Y) ⟨.build 30 [(2, (.v 9))], .push, none, false, 1, none⟩) ((zDst .push (vLenL (.v 9))) ((zDst .push (vInt E (fGen .leq) .leq 3 false true (.l 0) (.k (.int .i64 40)))) ((zStep E (cy Y) ⟨.store 30 (.v 8) (.l 2), .none, none, false, 5, none⟩) ((zDst (.var 16) (vMv (.l 0))) k)))))
  zRet)) (zSeq (zReg fun k => (zDst .push (vInt E fEql .eql 3 false true (.v 4) (.k (.int .i64 4)))) ((zDst .push (vMv (.l 0))) k))
  (zCond (.l 0) (zSeq (zReg fun k => (zDstW .push (wLoad 2 true (.v 3))) ((zDstW .push (wLoad 5 true (.v 6))) ((zDstW .push (wLoad 5 true (.v 7))) ((zCall (cy Y) 51 [(.l 2), (.l 1), (.l 0)] .push) ((zDst .push (vExtract 0 (.l 0))) ((zDst .push (vExtract 1 (.l 1))) ((zStep E (cy Y) ⟨.store 30 (.v 8) (.l 1), .none, none, false, 6, none⟩) ((zDst (.var 16) (vMv (.l 0))) k))))))))
  zRet) (zSeq (zReg fun k => (zDst .push (vInt E fEql .eql 3 false true (.v 4) (.k (.int .i64 5)))) ((zDst .push (vMv (.l 0))) k))
  (zCond (.l 0) (zSeq (zDreg 2 fun n0 k => (fun k sp => zDst .push (vFieldAddr 1 (.v 3)) (k sp)) ((zDstWD [0, 1, 3, 7, 0, 16, 48, 112, 0, 256, 768, 1792, 4095, 8191, 16383, 16383, 0, 98303, 262143] 1 .push (wLoad 1 false (.l 0))) ((fun k sp => zDst .push (vIndexAddr 2 (.l 0) (.k (.int .i64 0))) (k sp)) ((zDstWD [0, 1, 3, 7, 0, 16, 48, 112, 0, 256, 768, 1792, 4095, 8191, 16383, 16383, 0, 98303, 262143] 3 .push (wLoad 2 true (.l 0))) ((fun k sp => zDst .push (vFieldAddr 4 (.v 6)) (k sp)) ((zDstWD [0, 1, 3, 7, 0, 16, 48, 112, 0, 256, 768, 1792, 4095, 8191, 16383, 16383, 0, 98303, 262143] 5 .push (wLoad 1 false (.l 0))) ((fun k sp => zDst .push (vIndexAddr 5 (.l 0) (.k (.int .i64 0))) (k sp)) ((zDstWD [0, 1, 3, 7, 0, 16, 48, 112, 0, 256, 768, 1792, 4095, 8191, 16383, 16383, 0, 98303, 262143] 7 .push (wLoad 5 true (.l 0))) ((fun k sp => zDst .push (vFieldAddr 4 (.v 7)) (k sp)) ((zDstWD [0, 1, 3, 7, 0, 16, 48, 112, 0, 256, 768, 1792, 4095, 8191, 16383, 16383, 0, 98303, 262143] 9 .push (wLoad 1 false (.l 0))) ((fun k sp => zDst .push (vIndexAddr 5 (.l 0) (.k (.int .i64 0))) (k sp)) ((zDstWD [0, 1, 3, 7, 0, 16, 48, 112, 0, 256, 768, 1792, 4095, 8191, 16383, 16383, 0, 98303, 262143] 11 .push (wLoad 5 true (.l 0))) ((zCallD (cy Y) [0, 1, 3, 7, 0, 16, 48, 112, 0, 256, 768, 1792, 4095, 8191, 16383, 16383, 0, 98303, 262143] 12 27 [(.l 8), (.l 4), (.l 0)] .push) ((fun k sp => zDst .push (vExtract 0 (.l 0)) (k sp)) ((fun k sp => zDst .push (vExtract 1 (.l 1)) (k sp)) ((zStepD E (cy Y) [0, 1, 3, 7, 0, 16, 48, 112, 0, 256, 768, 1792, 4095, 8191, 16383, 16383, 0, 98303, 262143] n0 ⟨.alloc 30, (.var 10), none, false, 16, (some 1)⟩) ((zStepD E (cy Y) [0, 1, 3, 7, 0, 16, 48, 112, 0, 256, 768, 1792, 4095, 8191, 16383, 16383, 0, 98303, 262143] n0 ⟨.store 30 (.v 10) (.l 1), .none, none, false, 17, none⟩) ((fun k sp => zDst (.var 12) (vMv (.l 0)) (k sp)) k))))))))))))))))))
  (zSeq (zDreg 2 fun n0 k => (fun k sp => zDst .push (vFieldAddr 1 (.v 3)) (k sp)) ((zDstWD [0, 1, 3, 7, 0, 16, 48, 112, 0, 256, 768, 1792, 4095, 8191, 16383, 16383, 0, 98303, 262143] 1 .push (wLoad 1 false (.l 0))) ((fun k sp => zDst .push (vIndexAddr 2 (.l 0) (.k (.int .i64 1))) (k sp)) ((zDstWD [0, 1, 3, 7, 0, 16, 48, 112, 0, 256, 768, 1792, 4095, 8191, 16383, 16383, 0, 98303, 262143] 3 .push (wLoad 2 true (.l 0))) ((fun k sp => zDst .push (vFieldAddr 4 (.v 6)) (k sp)) ((zDstWD [0, 1, 3, 7, 0, 16, 48, 112, 0, 256, 768, 1792, 4095, 8191, 16383, 16383, 0, 98303, 262143] 5 .push (wLoad 1 false (.l 0))) ((fun k sp => zDst .push (vIndexAddr 5 (.l 0) (.k (.int .i64 1))) (k sp)) ((zDstWD [0, 1, 3, 7, 0, 16, 48, 112, 0, 256, 768, 1792, 4095, 8191, 16383, 16383, 0, 98303, 262143] 7 .push (wLoad 5 true (.l 0))) ((fun k sp => zDst .push (vFieldAddr 4 (.v 7)) (k sp)) ((zDstWD [0, 1, 3, 7, 0, 16, 48, 112, 0, 256, 768, 1792, 4095, 8191, 16383, 16383, 0, 98303, 262143] 9 .push (wLoad 1 false (.l 0))) ((fun k sp => zDst .push (vIndexAddr 5 (.l 0) (.k (.int .i64 1))) (k sp)) ((zDstWD [0, 1, 3, 7, 0, 16, 48, 112, 0, 256, 768, 1792, 4095, 8191, 16383, 16383, 0, 98303, 262143] 11 .push (wLoad 5 true (.l 0))) ((zCallD (cy Y) [0, 1, 3, 7, 0, 16, 48, 112, 0, 256, 768, 1792, 4095, 8191, 16383, 16383, 0, 98303, 262143] 12 27 [(.l 8), (.l 4), (.l 0)] .push) ((fun k sp => zDst .push (vExtract 0 (.l 0)) (k sp)) ((fun k sp => zDst .push (vExtract 1 (.l 1)) (k sp)) ((zStepD E (cy Y) [0, 1, 3, 7, 0, 16, 48, 112, 0, 256, 768, 1792, 4095, 8191, 16383, 16383, 0, 98303, 262143] n0 ⟨.alloc 30, (.var 11), none, false, 16, (some 1)⟩) ((zStepD E (cy Y) [0, 1, 3, 7, 0, 16, 48, 112, 0, 256, 768, 1792, 4095, 8191, 16383, 16383, 0, 98303, 262143] n0 ⟨.store 30 (.v 11) (.l 1), .none, none, false, 17, none⟩) ((fun k sp => zDst (.var 13) (vMv (.l 0)) (k sp)) k))))))))))))))))))
  (zSeq (zReg fun k => (zDstW .push (wLoad 5 true (.v 10))) ((zDstW .push (wLoad 5 true (.v 11))) ((zStep E (cy Y) ⟨.buildSlice 28 2 [(0, (.l 1)), (1, (.l 0))], .push, none, false, 2, (some 0)⟩) ((zStep E (cy Y) ⟨.build 30 [(4, (.l 0))], .push, none, false, 3, none⟩) ((zG (.v 12) true .push (zDst .push (vMv (.v 13)))) ((zDst .push (vPick (.v 12) (.l 0) (.k (.bool false)))) ((zStep E (cy Y) ⟨.store 30 (.v 8) (.l 2), .none, none, false, 8, none⟩) ((zDst (.var 16) (vMv (.l 0))) k))))))))
  zRet))) (zSeq (zReg fun k => (zDst .push (vInt E fEql .eql 3 false true (.v 4) (.k (.int .i64 6)))) ((zDst .push (vMv (.l 0))) k))
  (zCond (.l 0) (zSeq (zReg fun k => (zDstW .push (wLoad 5 true (.v 6))) ((zDstW .push (wLoad 5 true (.v 7))) ((zCall (cy Y) 52 [(.l 1), (.l 0)] .push) ((zStep E (cy Y) ⟨.store 30 (.v 8) (.l 0), .none, none, false, 3, none⟩) ((zDst (.var 16) (vMv (.k (.bool true)))) k)))))
  zRet) (zSeq (zReg fun k => (zDst .push (vInt E fEql .eql 3 false true (.v 4) (.k (.int .i64 7)))) ((zDst .push (vMv (.l 0))) k))
  (zCond (.l 0) (zSeq (zReg fun k => (zDst (.var 14) (vMv (.k (.sl 0 [] true)))) ((zDst (.var 15) (vMv (.k (.sl 0 [] true)))) k))
  (zSeq (zSeq (zReg fun k => (zDst .push (vFieldAddr 3 (.v 6))) ((zDstW .push (wLoad 1 false (.l 0))) ((zDst .push (vLenL (.l 0))) ((zDst .push (vInt E fGtr .gtr 3 false true (.l 0) (.k (.int .i64 0)))) k))))
  (zCond (.l 0) (zReg fun k => (zDst .push (vFieldAddr 3 (.v 6))) ((zDstW .push (wLoad 1 false (.l 0))) ((zDst .push (vIndexAddr 1 (.l 0) (.k (.int .i64 0)))) ((zDstW .push (wLoad 1 false (.l 0))) ((zDst (.var 14) (vMv (.l 0))) k))))) zSkip))
  (zSeq (zSeq (zReg fun k => (zDst .push (vFieldAddr 3 (.v 7))) ((zDstW .push (wLoad 1 false (.l 0))) ((zDst .push (vLenL (.l 0))) ((zDst .push (vInt E fGtr .gtr 3 false true (.l 0) (.k (.int .i64 0)))) k))))
  (zCond (.l 0) (zReg fun k => (zDst .push (vFieldAddr 3 (.v 7))) ((zDstW .push (wLoad 1 false (.l 0))) ((zDst .push (vIndexAddr 1 (.l 0) (.k (.int .i64 0)))) ((zDstW .push (wLoad 1 false (.l 0))) ((zDst (.var 15) (vMv (.l 0))) k))))) zSkip))
  (zSeq (zReg fun k => (zCall (cy Y) 53 [(.v 14), (.v 15)] .push) ((zCall (cy Y) 35 [(.l 0)] .push) ((zCall (cy Y) 53 [(.v 14), (.v 15)] .push) ((zDst .push (vLenL (.l 0))) ((zDst .push (vInt E (fGen .leq) .leq 3 false true (.l 0) (.k (.int .i64 40)))) ((zStep E (cy Y) ⟨.store 30 (.v 8) (.l 3), .none, none, false, 9, none⟩) ((zDst (.var 16) (vMv (.l 0))) k)))))))
  zRet)))) zSkip))))))))))))))
  (zSeq (zReg fun k => (zDstW .push (wLoad 2 true (.v 3))) ((zDstW .push (wLoad 5 true (.v 6))) ((zDstW .push (wLoad 5 true (.v 7))) ((zCall (cy Y) 54 [(.l 2), (.l 1), (.l 0)] .push) ((zDst .push (vExtract 0 (.l 0))) ((zDst .push (vExtract 1 (.l 1))) ((zStep E (cy Y) ⟨.store 30 (.v 8) (.l 1), .none, none, false, 6, none⟩) ((zDst (.var 16) (vMv (.l 0))) k))))))))
  zRet))), [.cell (.v 8) 30, .tmp (.v 16)]⟩
theorem G27_ok (fn : Nat → Option Func) (pu : Nat → Bool) (pr : Nat → List AV → Option (Heap → Option (Eff × Acc))) : ZOk ⟨Tryz.tyT, fn, pu, pr⟩ npT F27 (G27 ⟨Tryz.tyT, fn, pu, pr⟩) := ⟨rfl, rfl, rfl, fun cy Y k => by kernel_rfl⟩
noncomputable def F28 : FFn := ⟨4, [0, 1, 2], (.seq (.reg [⟨.box 30 (.v 0), (.var 1), none, false, 0, (some 0)⟩,
    ⟨.mv (.k .nilFunc), (.var 2), none, true, 1, none⟩]) (.seq (.reg [⟨.mkFunc 55 [(.v 1)], .push, none, false, 0, none⟩,
    ⟨.mv (.l 0), (.var 2), none, true, 1, none⟩]) .ret)), [.tmp (.v 2)]⟩
noncomputable def G28 (E : Env) : ZFn := ⟨4, [0, 1, 2], fun cy Y fuel =>
  (zSeq (zReg fun k => (zStep E (cy Y) ⟨.box 30 (.v 0), (.var 1), none, false, 0, (some 0)⟩) ((zDst (.var 2) (vMv (.k .nilFunc))) k))
  (zSeq (zReg fun k => (zStep E (cy Y) ⟨.mkFunc 55 [(.v 1)], .push, none, false, 0, none⟩) ((zDst (.var 2) (vMv (.l 0))) k))
  zRet)), [.tmp (.v 2)]⟩
theorem G28_ok (fn : Nat → Option Func) (pu : Nat → Bool) (pr : Nat → List AV → Option (Heap → Option (Eff × Acc))) : ZOk ⟨Tryz.tyT, fn, pu, pr⟩ npT F28 (G28 ⟨Tryz.tyT, fn, pu, pr⟩) := ⟨rfl, rfl, rfl, fun cy Y k => by kernel_rfl⟩
noncomputable def F29 : FFn := ⟨33, [0, 2, 4, 5, 1, 6], (.seq (.reg [⟨.box 24 (.v 0), (.var 1), none, false, 0, (some 0)⟩,
    ⟨.alloc 30, (.var 2), none, false, 1, (some 1)⟩,
    ⟨.alloc 33, (.var 3), none, false, 2, (some 2)⟩]) (.seq (.seq (.reg [⟨.load 24 (.v 1), .push, none, true, 0, none⟩,
    ⟨.call 43 [(.l 0)], .push, none, false, 1, (some 0)⟩,
    ⟨.un .not (.l 0), .push, none, false, 2, none⟩]) (.cond (.l 0) (.seq (.reg [⟨.build 30 [], .push, none, false, 0, none⟩,
    ⟨.mkIface 62 (.k (.int .i64 14)), .push, none, false, 1, none⟩,
    ⟨.store 30 (.v 2) (.l 1), .none, none, false, 2, none⟩,
    ⟨.store 33 (.v 3) (.l 0), .none, none, false, 3, none⟩]) .ret) .skip)) (.seq (.reg [⟨.load 24 (.v 1), .push, none, true, 0, none⟩,
    ⟨.call 56 [(.l 0)], .push, none, false, 1, (some 0)⟩,
    ⟨.alloc 30, (.var 5), none, false, 2, (some 1)⟩,
    ⟨.store 30 (.v 5) (.l 0), .none, none, false, 3, none⟩]) (.seq (.seq (.reg [⟨.call 57 [(.v 4)], .push, none, false, 1, (some 0)⟩]) (.block 0 (.range (.l 0) 5 [none, (some (.v 1)), (some (.v 5)), none, none, (some (.v 2)), (some (.v 3)), none] [none, none, (some (.v 1)), none, (some (.v 2)), (some (.v 3)), (some (.v 5)), none, none, none, none, none, none, none, none, none, none, none, none, none, none, none, none, none, none, none, none, none, none, none, none, none, none] [19] (codeAt [1, 1, 1, 0, 1, 0, 0] (bodyOf Tryz.f29)) (codeAt [1, 1, 1, 0, 1, 0, 1] (bodyOf Tryz.f29))))) (.seq (.reg [⟨.load 30 (.v 5), .push, none, true, 0, none⟩,
    ⟨.store 30 (.v 2) (.l 0), .none, none, false, 1, none⟩,
    ⟨.store 33 (.v 3) (.k .nilIface), .none, none, false, 2, none⟩]) .ret))))), [.cell (.v 2) 30, .cell (.v 3) 33]⟩
noncomputable def G29 (E : Env) : ZFn := ⟨33, [0, 2, 4, 5, 1, 6], fun cy Y fuel =>
  (zSeq (zReg fun k => (zStep E (cy Y) ⟨.box 24 (.v 0), (.var 1), none, false, 0, (some 0)⟩) ((zStep E (cy Y) ⟨.alloc 30, (.var 2), none, false, 1, (some 1)⟩) ((zStep E (cy Y) ⟨.alloc 33, (.var 3), none, false, 2, (some 2)⟩) k)))
  (zSeq (zSeq (zReg fun k => (zDstW .push (wLoad 2 true (.v 1))) ((zCall (cy Y) 43 [(.l 0)] .push) ((zDst .push (vNot (.l 0))) k)))
  (zCond (.l 0) (zSeq (zReg fun k => (zStep E (cy Y) ⟨.build 30 [], .push, none, false, 0, none⟩) ((zStep E (cy Y) ⟨.mkIface 62 (.k (.int .i64 14)), .push, none, false, 1, none⟩) ((zStep E (cy Y) ⟨.store 30 (.v 2) (.l 1), .none, none, false, 2, none⟩) ((zStep E (cy Y) ⟨.store 33 (.v 3) (.l 0), .none, none, false, 3, none⟩) k))))
  zRet) zSkip))
  (zSeq (zReg fun k => (zDstW .push (wLoad 2 true (.v 1))) ((zCall (cy Y) 56 [(.l 0)] .push) ((zStep E (cy Y) ⟨.alloc 30, (.var 5), none, false, 2, (some 1)⟩) ((zStep E (cy Y) ⟨.store 30 (.v 5) (.l 0), .none, none, false, 3, none⟩) k))))
  (zSeq (zSeq (zReg fun k => (zCall (cy Y) 57 [(.v 4)] .push) k)
  (zBlock 0 (zRange cy Y (.l 0) 5 [none, (some (.v 1)), (some (.v 5)), none, none, (some (.v 2)), (some (.v 3)), none] [none, none, (some (.v 1)), none, (some (.v 2)), (some (.v 3)), (some (.v 5)), none, none, none, none, none, none, none, none, none, none, none, none, none, none, none, none, none, none, none, none, none, none, none, none, none, none] [19] (codeAt [1, 1, 1, 0, 1, 0, 0] (bodyOf Tryz.f29)) (codeAt [1, 1, 1, 0, 1, 0, 1] (bodyOf Tryz.f29)))))
  (zSeq (zReg fun k => (zDstW .push (wLoad 5 true (.v 5))) ((zStep E (cy Y) ⟨.store 30 (.v 2) (.l 0), .none, none, false, 1, none⟩) ((zStep E (cy Y) ⟨.store 33 (.v 3) (.k .nilIface), .none, none, false, 2, none⟩) k)))
  zRet))))), [.cell (.v 2) 30, .cell (.v 3) 33]⟩
theorem G29_ok (fn : Nat → Option Func) (pu : Nat → Bool) (pr : Nat → List AV → Option (Heap → Option (Eff × Acc))) : ZOk ⟨Tryz.tyT, fn, pu, pr⟩ npT F29 (G29 ⟨Tryz.tyT, fn, pu, pr⟩) := ⟨rfl, rfl, rfl, fun cy Y k => by kernel_rfl⟩
noncomputable def F30 : FFn := ⟨26, [0, 1, 5, 4], (.seq (.reg [⟨.mv (.k (.bool false)), (.var 3), none, true, 0, none⟩]) (.seq (.seq (.reg [⟨.len 26 (.v 0), .push, none, false, 1, none⟩,
    ⟨.len 26 (.v 1), .push, none, false, 3, none⟩,
    ⟨.bin .neq 3 false false (.l 1) (.l 0), .push, none, false, 4, none⟩]) (.cond (.l 0) (.seq (.reg [⟨.mv (.k (.bool false)), (.var 3), none, true, 0, none⟩]) .ret) .skip)) (.seq (.seq (.reg [⟨.mv (.k (.int .i64 0)), (.var 2), none, true, 0, none⟩]) (.block 0 (.loop (.seq (.seq (.reg [⟨.len 26 (.v 0), .push, none, false, 2, none⟩,
    ⟨.bin .lss 3 false false (.v 2) (.l 0), .push, none, false, 3, none⟩]) (.cond (.l 0) .skip (.exit 0))) (.seq (.block 1 (.seq (.dreg 0 [0, 0, 3, 7, 0, 0, 48, 112, 255] [⟨.indexAddr 26 (.v 0) (.v 2), .push, none, true, 2, none⟩,
    ⟨.load 9 (.l 0), .push, none, true, 3, none⟩,
    ⟨.indexAddr 26 (.v 1) (.v 2), .push, none, true, 6, none⟩,
    ⟨.load 9 (.l 0), .push, none, true, 7, none⟩,
    ⟨.bin .neq 9 false false (.l 2) (.l 0), .push, none, false, 8, none⟩]) (.cond (.l 0) (.seq (.reg [⟨.mv (.k (.bool false)), (.var 3), none, true, 0, none⟩]) .ret) .skip))) (.reg [⟨.mv (.v 2), .push, none, true, 0, none⟩,
    ⟨.bin .add 3 false true (.l 0) (.k (.int .i64 1)), .push, none, false, 1, none⟩,
    ⟨.mv (.l 0), (.var 2), none, true, 2, none⟩])))))) (.seq (.reg [⟨.mv (.k (.bool true)), (.var 3), none, true, 0, none⟩]) .ret)))), [.tmp (.v 3)]⟩
noncomputable def G30 (E : Env) : ZFn := ⟨26, [0, 1, 5, 4], fun cy Y fuel =>
  (zSeq (zReg fun k => (zDst (.var 3) (vMv (.k (.bool false)))) k)
  (zSeq (zSeq (zReg fun k => (zDst .push (vLenL (.v 0))) ((zDst .push (vLenL (.v 1))) ((zDst .push (vInt E fNeq .neq 3 false false (.l 1) (.l 0))) k)))
  (zCond (.l 0) (zSeq (zReg fun k => (zDst (.var 3) (vMv (.k (.bool false)))) k)
  zRet) zSkip))
  (zSeq (zSeq (zReg fun k => (zDst (.var 2) (vMv (.k (.int .i64 0)))) k)
  (zBlock 0 (zLoop fuel (zSeq (zSeq (zReg fun k => (zDst .push (vLenL (.v 0))) ((zDst .push (vInt E fLss .lss 3 false false (.v 2) (.l 0))) k))
  (zCond (.l 0) zSkip (zExit 0)))
  (zSeq (zBlock 1 (zSeq (zDreg 0 fun n0 k => (fun k sp => zDst .push (vIndexAddr 1 (.v 0) (.v 2)) (k sp)) ((zDstWD [0, 0, 3, 7, 0, 0, 48, 112, 255] 3 .push (wLoad 1 false (.l 0))) ((fun k sp => zDst .push (vIndexAddr 1 (.v 1) (.v 2)) (k sp)) ((zDstWD [0, 0, 3, 7, 0, 0, 48, 112, 255] 7 .push (wLoad 1 false (.l 0))) ((fun k sp => zDst .push (vInt E fNeq .neq 9 false false (.l 2) (.l 0)) (k sp)) k)))))
  (zCond (.l 0) (zSeq (zReg fun k => (zDst (.var 3) (vMv (.k (.bool false)))) k)
  zRet) zSkip)))
  (zReg fun k => (zDst .push (vMv (.v 2))) ((zDst .push (vInt E fAdd .add 3 false true (.l 0) (.k (.int .i64 1)))) ((zDst (.var 2) (vMv (.l 0))) k))))))))
  (zSeq (zReg fun k => (zDst (.var 3) (vMv (.k (.bool true)))) k)
  zRet)))), [.tmp (.v 3)]⟩
theorem G30_ok (fn : Nat → Option Func) (pu : Nat → Bool) (pr : Nat → List AV → Option (Heap → Option (Eff × Acc))) : ZOk ⟨Tryz.tyT, fn, pu, pr⟩ npT F30 (G30 ⟨Tryz.tyT, fn, pu, pr⟩) := ⟨rfl, rfl, rfl, fun cy Y k => by kernel_rfl⟩
noncomputable def F31 : FFn := ⟨26, [0, 1, 5, 4], (.seq (.reg [⟨.mv (.k (.bool false)), (.var 3), none, true, 0, none⟩]) (.seq (.seq (.reg [⟨.len 58 (.v 0), .push, none, false, 1, none⟩,
    ⟨.len 58 (.v 1), .push, none, false, 3, none⟩,
    ⟨.bin .neq 3 false false (.l 1) (.l 0), .push, none, false, 4, none⟩]) (.cond (.l 0) (.seq (.reg [⟨.mv (.k (.bool false)), (.var 3), none, true, 0, none⟩]) .ret) .skip)) (.seq (.seq (.reg [⟨.mv (.k (.int .i64 0)), (.var 2), none, true, 0, none⟩]) (.block 0 (.loop (.seq (.seq (.reg [⟨.len 58 (.v 0), .push, none, false, 2, none⟩,
    ⟨.bin .lss 3 false false (.v 2) (.l 0), .push, none, false, 3, none⟩]) (.cond (.l 0) .skip (.exit 0))) (.seq (.block 1 (.seq (.dreg 0 [0, 0, 3, 7, 0, 0, 48, 112, 255] [⟨.indexAddr 58 (.v 0) (.v 2), .push, none, true, 2, none⟩,
    ⟨.load 57 (.l 0), .push, none, true, 3, none⟩,
    ⟨.indexAddr 58 (.v 1) (.v 2), .push, none, true, 6, none⟩,
    ⟨.load 57 (.l 0), .push, none, true, 7, none⟩,
    ⟨.bin .neq 57 false false (.l 2) (.l 0), .push, none, false, 8, none⟩]) (.cond (.l 0) (.seq (.reg [⟨.mv (.k (.bool false)), (.var 3), none, true, 0, none⟩]) .ret) .skip))) (.reg [⟨.mv (.v 2), .push, none, true, 0, none⟩,
    ⟨.bin .add 3 false true (.l 0) (.k (.int .i64 1)), .push, none, false, 1, none⟩,
    ⟨.mv (.l 0), (.var 2), none, true, 2, none⟩])))))) (.seq (.reg [⟨.mv (.k (.bool true)), (.var 3), none, true, 0, none⟩]) .ret)))), [.tmp (.v 3)]⟩
noncomputable def G31 (E : Env) : ZFn := ⟨26, [0, 1, 5, 4], fun cy Y fuel =>
  (zSeq (zReg fun k => (zDst (.var 3) (vMv (.k (.bool false)))) k)
  (zSeq (zSeq (zReg fun k => (zDst .push (vLenL (.v 0))) ((zDst .push (vLenL (.v 1))) ((zDst .push (vInt E fNeq .neq 3 false false (.l 1) (.l 0))) k)))
  (zCond (.l 0) (zSeq (zReg fun k => (zDst (.var 3) (vMv (.k (.bool false)))) k)
  zRet) zSkip))
  (zSeq (zSeq (zReg fun k => (zDst (.var 2) (vMv (.k (.int .i64 0)))) k)
  (zBlock 0 (zLoop fuel (zSeq (zSeq (zReg fun k => (zDst .push (vLenL (.v 0))) ((zDst .push (vInt E fLss .lss 3 false false (.v 2) (.l 0))) k))
  (zCond (.l 0) zSkip (zExit 0)))
  (zSeq (zBlock 1 (zSeq (zDreg 0 fun n0 k => (fun k sp => zDst .push (vIndexAddr 2 (.v 0) (.v 2)) (k sp)) ((zDstWD [0, 0, 3, 7, 0, 0, 48, 112, 255] 3 .push (wLoad 2 true (.l 0))) ((fun k sp => zDst .push (vIndexAddr 2 (.v 1) (.v 2)) (k sp)) ((zDstWD [0, 0, 3, 7, 0, 0, 48, 112, 255] 7 .push (wLoad 2 true (.l 0))) ((fun k sp => zDst .push (vInt E fNeq .neq 57 false false (.l 2) (.l 0)) (k sp)) k)))))
  (zCond (.l 0) (zSeq (zReg fun k => (zDst (.var 3) (vMv (.k (.bool false)))) k)
  zRet) zSkip)))
  (zReg fun k => (zDst .push (vMv (.v 2))) ((zDst .push (vInt E fAdd .add 3 false true (.l 0) (.k (.int .i64 1)))) ((zDst (.var 2) (vMv (.l 0))) k))))))))
  (zSeq (zReg fun k => (zDst (.var 3) (vMv (.k (.bool true)))) k)
  zRet)))), [.tmp (.v 3)]⟩
theorem G31_ok (fn : Nat → Option Func) (pu : Nat → Bool) (pr : Nat → List AV → Option (Heap → Option (Eff × Acc))) : ZOk ⟨Tryz.tyT, fn, pu, pr⟩ npT F31 (G31 ⟨Tryz.tyT, fn, pu, pr⟩) := ⟨rfl, rfl, rfl, fun cy Y k => by kernel_rfl⟩
noncomputable def F32 : FFn := ⟨5, [0, 1, 2], (.seq (.reg [⟨.box 24 (.v 0), (.var 1), none, false, 0, (some 0)⟩,
    ⟨.mv (.k (.bool false)), (.var 2), none, true, 1, none⟩]) (.seq (.reg [⟨.load 24 (.v 1), .push, none, true, 0, none⟩,
    ⟨.call 59 [(.l 0), (.k (.int .i64 16))], .push, none, false, 1, (some 0)⟩,
    ⟨.mv (.l 0), (.var 2), none, true, 2, none⟩]) .ret)), [.tmp (.v 2)]⟩
noncomputable def G32 (E : Env) : ZFn := ⟨5, [0, 1, 2], fun cy Y fuel =>
  (zSeq (zReg fun k => (zStep E (cy Y) ⟨.box 24 (.v 0), (.var 1), none, false, 0, (some 0)⟩) ((zDst (.var 2) (vMv (.k (.bool false)))) k))
  (zSeq (zReg fun k => (zDstW .push (wLoad 2 true (.v 1))) ((zCall (cy Y) 59 [(.l 0), (.k (.int .i64 16))] .push) ((zDst (.var 2) (vMv (.l 0))) k)))
  zRet)), [.tmp (.v 2)]⟩
theorem G32_ok (fn : Nat → Option Func) (pu : Nat → Bool) (pr : Nat → List AV → Option (Heap → Option (Eff × Acc))) : ZOk ⟨Tryz.tyT, fn, pu, pr⟩ npT F32 (G32 ⟨Tryz.tyT, fn, pu, pr⟩) := ⟨rfl, rfl, rfl, fun cy Y k => by kernel_rfl⟩
noncomputable def F33 : FFn := ⟨104, [0, 1, 2, 3, 23, 5, 4], (.seq (.reg [⟨.box 24 (.v 0), (.var 2), none, false, 0, (some 0)⟩,
    ⟨.box 30 (.v 1), (.var 3), none, false, 1, (some 1)⟩,
    ⟨.mv (.k (.bool false)), (.var 6), none, true, 2, none⟩]) (.seq (.seq (.reg [⟨.load 24 (.v 2), .push, none, true, 0, none⟩,
    ⟨.load 30 (.v 3), .push, none, true, 1, none⟩,
    ⟨.call 60 [(.l 1), (.l 0)], .push, none, false, 2, (some 0)⟩,
    ⟨.un .not (.l 0), .push, none, false, 3, none⟩,
    ⟨.fieldAddr 30 (.v 3) 2, .push, (some ((.l 0), false)), true, 5, none⟩,
    ⟨.load 26 (.l 0), .push, (some ((.l 1), false)), true, 6, none⟩,
    ⟨.call 61 [(.l 0)], .push, (some ((.l 2), false)), false, 7, (some 1)⟩,
    ⟨.un .not (.l 0), .push, (some ((.l 3), false)), false, 8, none⟩,
    ⟨.pick (.l 4) (.k (.bool true)) (.l 0), .push, none, true, 9, none⟩,
    ⟨.fieldAddr 30 (.v 3) 2, .push, (some ((.l 0), false)), true, 11, none⟩,
    ⟨.load 26 (.l 0), .push, (some ((.l 1), false)), true, 12, none⟩,
    ⟨.len 26 (.l 0), .push, (some ((.l 2), false)), false, 13, none⟩,
    ⟨.bin .gtr 3 false true (.l 0) (.k (.int .i64 40)), .push, (some ((.l 3), false)), false, 14, none⟩,
    ⟨.pick (.l 4) (.k (.bool true)) (.l 0), .push, none, true, 15, none⟩]) (.cond (.l 0) (.seq (.reg [⟨.mv (.k (.bool false)), (.var 6), none, true, 0, none⟩]) .ret) .skip)) (.seq (.seq (.reg [⟨.fieldAddr 24 (.v 2) 0, .push, none, true, 0, none⟩,
    ⟨.load 3 (.l 0), (.var 4), none, true, 1, none⟩]) (.block 0 (.seq (.reg [⟨.bin .eql 3 false true (.v 4) (.k (.int .i64 4)), .push, none, false, 0, none⟩,
    ⟨.mv (.l 0), .push, none, true, 1, none⟩]) (.cond (.l 0) (.seq (.reg [⟨.mv (.k (.int .i64 0)), (.var 5), none, true, 0, none⟩]) (.block 1 (.loop (.seq (.seq (.reg [⟨.fieldAddr 30 (.v 3) 4, .push, none, true, 1, none⟩,
    ⟨.load 28 (.l 0), .push, none, true, 2, none⟩,
    ⟨.len 28 (.l 0), .push, none, false, 3, none⟩,
    ⟨.bin .lss 3 false false (.v 5) (.l 0), .push, none, false, 4, none⟩]) (.cond (.l 0) .skip (.exit 1))) (.seq (.block 2 (.seq (.dreg 2 [0, 1, 3, 7, 0, 16, 0, 112, 240, 511, 1023, 2047, 4095, 8191, 16383, 32767, 4095, 69631, 4095, 462847, 987135, 2097151, 4194303] [⟨.fieldAddr 24 (.v 2) 1, .push, none, true, 0, none⟩,
    ⟨.load 22 (.l 0), .push, none, true, 1, none⟩,
    ⟨.indexAddr 22 (.l 0) (.k (.int .i64 0)), .push, none, true, 2, none⟩,
    ⟨.load 24 (.l 0), .push, none, true, 3, none⟩,
    ⟨.fieldAddr 30 (.v 3) 4, .push, none, true, 4, none⟩,
    ⟨.load 28 (.l 0), .push, none, true, 5, none⟩,
    ⟨.indexAddr 28 (.l 0) (.v 5), .push, none, true, 7, none⟩,
    ⟨.load 30 (.l 0), .push, none, true, 8, none⟩,
    ⟨.call 33 [(.l 4), (.l 0)], .push, none, false, 9, (some 0)⟩,
    ⟨.un .not (.l 0), .push, none, false, 10, none⟩,
    ⟨.fieldAddr 24 (.v 2) 1, .push, (some ((.l 0), false)), true, 12, none⟩,
    ⟨.load 22 (.l 0), .push, (some ((.l 1), false)), true, 13, none⟩,
    ⟨.indexAddr 22 (.l 0) (.k (.int .i64 0)), .push, (some ((.l 2), false)), true, 14, none⟩,
    ⟨.load 24 (.l 0), .push, (some ((.l 3), false)), true, 15, none⟩,
    ⟨.fieldAddr 30 (.v 3) 4, .push, (some ((.l 4), false)), true, 16, none⟩,
    ⟨.load 28 (.l 0), .push, (some ((.l 5), false)), true, 17, none⟩,
    ⟨.mv (.v 5), .push, (some ((.l 6), false)), true, 18, none⟩,
    ⟨.indexAddr 28 (.l 1) (.l 0), .push, (some ((.l 7), false)), true, 19, none⟩,
    ⟨.load 30 (.l 0), .push, (some ((.l 8), false)), true, 20, none⟩,
    ⟨.call 62 [(.l 5), (.l 0)], .push, (some ((.l 9), false)), false, 21, (some 1)⟩,
    ⟨.pick (.l 10) (.k (.bool true)) (.l 0), .push, none, true, 22, none⟩]) (.cond (.l 0) (.seq (.reg [⟨.mv (.k (.bool false)), (.var 6), none, true, 0, none⟩]) .ret) .skip))) (.reg [⟨.mv (.v 5), .push, none, true, 0, none⟩,
    ⟨.bin .add 3 false true (.l 0) (.k (.int .i64 1)), .push, none, false, 1, none⟩,
    ⟨.mv (.l 0), (.var 5), none, true, 2, none⟩])))))) (.seq (.reg [⟨.bin .eql 3 false true (.v 4) (.k (.int .i64 5)), .push, none, false, 0, none⟩,
    ⟨.mv (.l 0), .push, none, true, 1, none⟩]) (.cond (.l 0) (.seq (.dreg 2 [0, 1, 3, 7, 0, 16, 48, 112, 255, 511, 1023, 2047, 4095, 8191, 1023, 17407, 50175, 115711, 262143, 524287, 1048575] [⟨.fieldAddr 24 (.v 2) 1, .push, none, true, 0, none⟩,
    ⟨.load 22 (.l 0), .push, none, true, 1, none⟩,
    ⟨.indexAddr 22 (.l 0) (.k (.int .i64 0)), .push, none, true, 2, none⟩,
    ⟨.load 24 (.l 0), .push, none, true, 3, none⟩,
    ⟨.fieldAddr 30 (.v 3) 4, .push, none, true, 4, none⟩,
    ⟨.load 28 (.l 0), .push, none, true, 5, none⟩,
    ⟨.indexAddr 28 (.l 0) (.k (.int .i64 0)), .push, none, true, 6, none⟩,
    ⟨.load 30 (.l 0), .push, none, true, 7, none⟩,
    ⟨.call 33 [(.l 4), (.l 0)], .push, none, false, 8, (some 0)⟩,
    ⟨.fieldAddr 24 (.v 2) 1, .push, (some ((.l 0), true)), true, 10, none⟩,
    ⟨.load 22 (.l 0), .push, (some ((.l 1), true)), true, 11, none⟩,
    ⟨.indexAddr 22 (.l 0) (.k (.int .i64 1)), .push, (some ((.l 2), true)), true, 12, none⟩,
    ⟨.load 24 (.l 0), .push, (some ((.l 3), true)), true, 13, none⟩,
    ⟨.fieldAddr 30 (.v 3) 4, .push, (some ((.l 4), true)), true, 14, none⟩,
    ⟨.load 28 (.l 0), .push, (some ((.l 5), true)), true, 15, none⟩,
    ⟨.indexAddr 28 (.l 0) (.k (.int .i64 1)), .push, (some ((.l 6), true)), true, 16, none⟩,
    ⟨.load 30 (.l 0), .push, (some ((.l 7), true)), true, 17, none⟩,
    ⟨.call 33 [(.l 4), (.l 0)], .push, (some ((.l 8), true)), false, 18, (some 1)⟩,
    ⟨.pick (.l 9) (.l 0) (.k (.bool false)), .push, none, true, 19, none⟩,
    ⟨.mv (.l 0), (.var 6), none, true, 20, none⟩]) .ret) (.seq (.reg [⟨.bin .eql 3 false true (.v 4) (.k (.int .i64 7)), .push, none, false, 0, none⟩,
    ⟨.mv (.l 0), .push, none, true, 1, none⟩]) (.cond (.l 0) (.seq (.reg [⟨.fieldAddr 30 (.v 3) 3, .push, none, true, 0, none⟩,
    ⟨.load 27 (.l 0), .push, none, true, 1, none⟩,
    ⟨.len 27 (.l 0), .push, none, false, 2, none⟩,
    ⟨.bin .eql 3 false true (.l 0) (.k (.int .i64 0)), .push, none, false, 3, none⟩,
    ⟨.fieldAddr 30 (.v 3) 3, .push, (some ((.l 0), false)), true, 5, none⟩,
    ⟨.load 27 (.l 0), .push, (some ((.l 1), false)), true, 6, none⟩,
    ⟨.indexAddr 27 (.l 0) (.k (.int .i64 0)), .push, (some ((.l 2), false)), true, 7, none⟩,
    ⟨.load 58 (.l 0), .push, (some ((.l 3), false)), true, 8, none⟩,
    ⟨.call 63 [(.l 0)], .push, (some ((.l 4), false)), false, 9, (some 0)⟩,
    ⟨.mv (.l 0), .push, (some ((.l 5), false)), true, 10, none⟩,
    ⟨.fieldAddr 30 (.v 3) 3, .push, (some ((.l 0), true)), true, 11, none⟩,
    ⟨.load 27 (.l 0), .push, (some ((.l 1), true)), true, 12, none⟩,
    ⟨.indexAddr 27 (.l 0) (.k (.int .i64 0)), .push, (some ((.l 2), true)), true, 13, none⟩,
    ⟨.load 58 (.l 0), .push, (some ((.l 3), true)), true, 14, none⟩,
    ⟨.len 58 (.l 0), .push, (some ((.l 4), true)), false, 15, none⟩,
    ⟨.bin .gtr 3 false true (.l 0) (.k (.int .i64 0)), .push, (some ((.l 5), true)), false, 16, none⟩,
    ⟨.pick (.l 6) (.l 0) (.k (.bool false)), .push, (some ((.l 12), false)), true, 17, none⟩,
    ⟨.pick (.l 13) (.k (.bool true)) (.l 0), .push, none, true, 18, none⟩,
    ⟨.mv (.l 0), (.var 6), none, true, 19, none⟩]) .ret) (.seq (.reg [⟨.bin .eql 3 false true (.v 4) (.k (.int .i64 8)), .push, none, false, 0, none⟩,
    ⟨.mv (.l 0), .push, none, true, 1, none⟩]) (.cond (.l 0) (.seq (.reg [⟨.load 24 (.v 2), .push, none, true, 0, none⟩,
    ⟨.load 30 (.v 3), .push, none, true, 1, none⟩,
    ⟨.call 64 [(.l 1), (.l 0)], .push, none, false, 2, (some 0)⟩,
    ⟨.mv (.l 0), (.var 6), none, true, 3, none⟩]) .ret) .skip)))))))))) (.seq (.reg [⟨.mv (.k (.bool true)), (.var 6), none, true, 0, none⟩]) .ret)))), [.tmp (.v 6)]⟩
noncomputable def G33 (E : Env) : ZFn := ⟨104, [0, 1, 2, 3, 23, 5, 4], fun cy Y fuel =>
  (zSeq (zReg fun k => (zStep E (cy Y) ⟨.box 24 (.v 0), (.var 2), none, false, 0, (some 0)⟩) ((zStep E (cy Y) ⟨.box 30 (.v 1), (.var 3), none, false, 1, (some 1)⟩) ((zDst (.var 6) (vMv (.k (.bool false)))) k)))
  (zSeq (zSeq (zReg fun k => (zDstW .push (wLoad 2 true (.v 2))) ((zDstW .push (wLoad 5 true (.v 3))) ((zCall (cy Y) 60 [(.l 1), (.l 0)] .push) ((zDst .push (vNot (.l 0))) ((zG (.l 0) false .push (zDst .push (vFieldAddr 2 (.v 3)))) ((zG (.l 1) false .push (zDstW .push (wLoad 1 false (.l 0)))) ((zG (.l 2) false .push (zCall (cy Y) 61 [(.l 0)] .push)) ((zG (.l 3) false .push (zDst .push (vNot (.l 0)))) ((zDst .push (vPick (.l 4) (.k (.bool true)) (.l 0))) ((zG (.l 0) false .push (zDst .push (vFieldAddr 2 (.v 3)))) ((zG (.l 1) false .push (zDstW .push (wLoad 1 false (.l 0)))) ((zG (.l 2) false .push (zDst .push (vLenL (.l 0)))) ((zG (.l 3) false .push (zDst .push (vInt E fGtr .gtr 3 false true (.l 0) (.k (.int .i64 40))))) ((zDst .push (vPick (.l 4) (.k (.bool true)) (.l 0))) k))))))))))))))
  (zCond (.l 0) (zSeq (zReg fun k => (zDst (.var 6) (vMv (.k (.bool false)))) k)
  zRet) zSkip))
  (zSeq (zSeq (zReg fun k => (zDst .push (vFieldAddr 0 (.v 2))) ((zDstW (.var 4) (wLoad 1 false (.l 0))) k))
  (zBlock 0 (zSeq (zReg fun k => (zDst .push (vInt E fEql .eql 3 false true (.v 4) (.k (.int .i64 4)))) ((zDst .push (vMv (.l 0))) k))
  (zCond (.l 0) (zSeq (zReg fun k => (zDst (.var 5) (vMv (.k (.int .i64 0)))) k)
  (zBlock 1 (zLoop fuel (zSeq (zSeq (zReg fun k => (zDst .push (vFieldAddr 4 (.v 3))) ((zDstW .push (wLoad 1 false (.l 0))) ((zDst .push (vLenL (.l 0))) ((zDst .push (vInt E fLss .lss 3 false false (.v 5) (.l 0))) k))))
  (zCond (.l 0) zSkip (zExit 1)))
  (zSeq (zBlock 2 (zSeq (zDreg 2 fun n0 k => (fun k sp => zDst .push (vFieldAddr 1 (.v 2)) (k sp)) ((zDstWD [0, 1, 3, 7, 0, 16, 0, 112, 240, 511, 1023, 2047, 4095, 8191, 16383, 32767, 4095, 69631, 4095, 462847, 987135, 2097151, 4194303] 1 .push (wLoad 1 false (.l 0))) ((fun k sp => zDst .push (vIndexAddr 2 (.l 0) (.k (.int .i64 0))) (k sp)) ((zDstWD [0, 1, 3, 7, 0, 16, 0, 112, 240, 511, 1023, 2047, 4095, 8191, 16383, 32767, 4095, 69631, 4095, 462847, 987135, 2097151, 4194303] 3 .push (wLoad 2 true (.l 0))) ((fun k sp => zDst .push (vFieldAddr 4 (.v 3)) (k sp)) ((zDstWD [0, 1, 3, 7, 0, 16, 0, 112, 240, 511, 1023, 2047, 4095, 8191, 16383, 32767, 4095, 69631, 4095, 462847, 987135, 2097151, 4194303] 5 .push (wLoad 1 false (.l 0))) ((fun k sp => zDst .push (vIndexAddr 5 (.l 0) (.v 5)) (k sp)) ((zDstWD [0, 1, 3, 7, 0, 16, 0, 112, 240, 511, 1023, 2047, 4095, 8191, 16383, 32767, 4095, 69631, 4095, 462847, 987135, 2097151, 4194303] 8 .push (wLoad 5 true (.l 0))) ((zCallD (cy Y) [0, 1, 3, 7, 0, 16, 0, 112, 240, 511, 1023, 2047, 4095, 8191, 16383, 32767, 4095, 69631, 4095, 462847, 987135, 2097151, 4194303] 9 33 [(.l 4), (.l 0)] .push) ((fun k sp => zDst .push (vNot (.l 0)) (k sp)) ((zGD (.l 0) false .push (fun k sp => zDst .push (vFieldAddr 1 (.v 2)) (k sp))) ((zGD (.l 1) false .push (zDstWD [0, 1, 3, 7, 0, 16, 0, 112, 240, 511, 1023, 2047, 4095, 8191, 16383, 32767, 4095, 69631, 4095, 462847, 987135, 2097151, 4194303] 13 .push (wLoad 1 false (.l 0)))) ((zGD (.l 2) false .push (fun k sp => zDst .push (vIndexAddr 2 (.l 0) (.k (.int .i64 0))) (k sp))) ((zGD (.l 3) false .push (zDstWD [0, 1, 3, 7, 0, 16, 0, 112, 240, 511, 1023, 2047, 4095, 8191, 16383, 32767, 4095, 69631, 4095, 462847, 987135, 2097151, 4194303] 15 .push (wLoad 2 true (.l 0)))) ((zGD (.l 4) false .push (fun k sp => zDst .push (vFieldAddr 4 (.v 3)) (k sp))) ((zGD (.l 5) false .push (zDstWD [0, 1, 3, 7, 0, 16, 0, 112, 240, 511, 1023, 2047, 4095, 8191, 16383, 32767, 4095, 69631, 4095, 462847, 987135, 2097151, 4194303] 17 .push (wLoad 1 false (.l 0)))) ((zGD (.l 6) false .push (fun k sp => zDst .push (vMv (.v 5)) (k sp))) ((zGD (.l 7) false .push (fun k sp => zDst .push (vIndexAddr 5 (.l 1) (.l 0)) (k sp))) ((zGD (.l 8) false .push (zDstWD [0, 1, 3, 7, 0, 16, 0, 112, 240, 511, 1023, 2047, 4095, 8191, 16383, 32767, 4095, 69631, 4095, 462847, 987135, 2097151, 4194303] 20 .push (wLoad 5 true (.l 0)))) ((zGD (.l 9) false .push (zCallD (cy Y) [0, 1, 3, 7, 0, 16, 0, 112, 240, 511, 1023, 2047, 4095, 8191, 16383, 32767, 4095, 69631, 4095, 462847, 987135, 2097151, 4194303] 21 62 [(.l 5), (.l 0)] .push)) ((fun k sp => zDst .push (vPick (.l 10) (.k (.bool true)) (.l 0)) (k sp)) k)))))))))))))))))))))
  (zCond (.l 0) (zSeq (zReg fun k => (zDst (.var 6) (vMv (.k (.bool false)))) k)
  zRet) zSkip)))
  (zReg fun k => (zDst .push (vMv (.v 5))) ((zDst .push (vInt E fAdd .add 3 false true (.l 0) (.k (.int .i64 1)))) ((zDst (.var 5) (vMv (.l 0))) k)))))))) (zSeq (zReg fun k => (zDst .push (vInt E fEql .eql 3 false true (.v 4) (.k (.int .i64 5)))) ((zDst .push (vMv (.l 0))) k))
  (zCond (.l 0) (zSeq (zDreg 2 fun n0 k => (fun k sp => zDst .push (vFieldAddr 1 (.v 2)) (k sp)) ((zDstWD [0, 1, 3, 7, 0, 16, 48, 112, 255, 511, 1023, 2047, 4095, 8191, 1023, 17407, 50175, 115711, 262143, 524287, 1048575] 1 .push (wLoad 1 false (.l 0))) ((fun k sp => zDst .push (vIndexAddr 2 (.l 0) (.k (.int .i64 0))) (k sp)) ((zDstWD [0, 1, 3, 7, 0, 16, 48, 112, 255, 511, 1023, 2047, 4095, 8191, 1023, 17407, 50175, 115711, 262143, 524287, 1048575] 3 .push (wLoad 2 true (.l 0))) ((fun k sp => zDst .push (vFieldAddr 4 (.v 3)) (k sp)) ((zDstWD [0, 1, 3, 7, 0, 16, 48, 112, 255, 511, 1023, 2047, 4095, 8191, 1023, 17407, 50175, 115711, 262143, 524287, 1048575] 5 .push (wLoad 1 false (.l 0))) ((fun k sp => zDst .push (vIndexAddr 5 (.l 0) (.k (.int .i64 0))) (k sp)) ((zDstWD [0, 1, 3, 7, 0, 16, 48, 112, 255, 511, 1023, 2047, 4095, 8191, 1023, 17407, 50175, 115711, 262143, 524287, 1048575] 7 .push (wLoad 5 true (.l 0))) ((zCallD (cy Y) [0, 1, 3, 7, 0, 16, 48, 112, 255, 511, 1023, 2047, 4095, 8191, 1023, 17407, 50175, 115711, 262143, 524287, 1048575] 8 33 [(.l 4), (.l 0)] .push) ((zGD (.l 0) true .push (fun k sp => zDst .push (vFieldAddr 1 (.v 2)) (k sp))) ((zGD (.l 1) true .push (zDstWD [0, 1, 3, 7, 0, 16, 48, 112, 255, 511, 1023, 2047, 4095, 8191, 1023, 17407, 50175, 115711, 262143, 524287, 1048575] 11 .push (wLoad 1 false (.l 0)))) ((zGD (.l 2) true .push (fun k sp => zDst .push (vIndexAddr 2 (.l 0) (.k (.int .i64 1))) (k sp))) ((zGD (.l 3) true .push (zDstWD [0, 1, 3, 7, 0, 16, 48, 112, 255, 511, 1023, 2047, 4095, 8191, 1023, 17407, 50175, 115711, 262143, 524287, 1048575] 13 .push (wLoad 2 true (.l 0)))) ((zGD (.l 4) true .push (fun k sp => zDst .push (vFieldAddr 4 (.v 3)) (k sp))) ((zGD (.l 5) true .push (zDstWD [0, 1, 3, 7, 0, 16, 48, 112, 255, 511, 1023, 2047, 4095, 8191, 1023, 17407, 50175, 115711, 262143, 524287, 1048575] 15 .push (wLoad 1 false (.l 0)))) ((zGD (.l 6) true .push (fun k sp => zDst .push (vIndexAddr 5 (.l 0) (.k (.int .i64 1))) (k sp))) ((zGD (.l 7) true .push (zDstWD [0, 1, 3, 7, 0, 16, 48, 112, 255, 511, 1023, 2047, 4095, 8191, 1023, 17407, 50175, 115711, 262143, 524287, 1048575] 17 .push (wLoad 5 true (.l 0)))) ((zGD (.l 8) true .push (zCallD (cy Y) [0, 1, 3, 7, 0, 16, 48, 112, 255, 511, 1023, 2047, 4095, 8191, 1023, 17407, 50175, 115711, 262143, 524287, 1048575] 18 33 [(.l 4), (.l 0)] .push)) ((fun k sp => zDst .push (vPick (.l 9) (.l 0) (.k (.bool false))) (k sp)) ((fun k sp => zDst (.var 6) (vMv (.l 0)) (k sp)) k))))))))))))))))))))
  zRet) (zSeq (zReg fun k => (zDst .push (vInt E fEql .eql 3 false true (.v 4) (.k (.int .i64 7)))) ((zDst .push (vMv (.l 0))) k))
  (zCond (.l 0) (zSeq (zReg fun k => (zDst .push (vFieldAddr 3 (.v 3))) ((zDstW .push (wLoad 1 false (.l 0))) ((zDst .push (vLenL (.l 0))) ((zDst .push (vInt E fEql .eql 3 false true (.l 0) (.k (.int .i64 0)))) ((zG (.l 0) false .push (zDst .push (vFieldAddr 3 (.v 3)))) ((zG (.l 1) false .push (zDstW .push (wLoad 1 false (.l 0)))) ((zG (.l 2) false .push (zDst .push (vIndexAddr 1 (.l 0) (.k (.int .i64 0))))) ((zG (.l 3) false .push (zDstW .push (wLoad 1 false (.l 0)))) ((zG (.l 4) false .push (zCall (cy Y) 63 [(.l 0)] .push)) ((zG (.l 5) false .push (zDst .push (vMv (.l 0)))) ((zG (.l 0) true .push (zDst .push (vFieldAddr 3 (.v 3)))) ((zG (.l 1) true .push (zDstW .push (wLoad 1 false (.l 0)))) ((zG (.l 2) true .push (zDst .push (vIndexAddr 1 (.l 0) (.k (.int .i64 0))))) ((zG (.l 3) true .push (zDstW .push (wLoad 1 false (.l 0)))) ((zG (.l 4) true .push (zDst .push (vLenL (.l 0)))) ((zG (.l 5) true .push (zDst .push (vInt E fGtr .gtr 3 false true (.l 0) (.k (.int .i64 0))))) ((zG (.l 12) false .push (zDst .push (vPick (.l 6) (.l 0) (.k (.bool false))))) ((zDst .push (vPick (.l 13) (.k (.bool true)) (.l 0))) ((zDst (.var 6) (vMv (.l 0))) k)))))))))))))))))))
  zRet) (zSeq (zReg fun k => (zDst .push (vInt E fEql .eql 3 false true (.v 4) (.k (.int .i64 8)))) ((zDst .push (vMv (.l 0))) k))
  (zCond (.l 0) (zSeq (zReg fun k => (zDstW .push (wLoad 2 true (.v 2))) ((zDstW .push (wLoad 5 true (.v 3))) ((zCall (cy Y) 64 [(.l 1), (.l 0)] .push) ((zDst (.var 6) (vMv (.l 0))) k))))
  zRet) zSkip))))))))))
  (zSeq (zReg fun k => (zDst (.var 6) (vMv (.k (.bool true)))) k)
  zRet)))), [.tmp (.v 6)]⟩
theorem G33_ok (fn : Nat → Option Func) (pu : Nat → Bool) (pr : Nat → List AV → Option (Heap → Option (Eff × Acc))) : ZOk ⟨Tryz.tyT, fn, pu, pr⟩ npT F33 (G33 ⟨Tryz.tyT, fn, pu, pr⟩) := ⟨rfl, rfl, rfl, fun cy Y k => by kernel_rfl⟩
noncomputable def F34 : FFn := ⟨26, [0, 1, 2, 3, 4, 5, 9, 8, 6, 7], (.seq (.reg [⟨.box 24 (.v 0), (.var 3), none, false, 0, (some 0)⟩,
    ⟨.box 30 (.v 1), (.var 4), none, false, 1, (some 1)⟩,
    ⟨.box 30 (.v 2), (.var 5), none, false, 2, (some 2)⟩,
    ⟨.mv (.k (.bool false)), (.var 8), none, true, 3, none⟩,
    ⟨.mv (.k (.int .i64 0)), (.var 9), none, true, 4, none⟩]) (.seq (.reg [⟨.load 24 (.v 3), .push, none, true, 0, none⟩,
    ⟨.load 30 (.v 4), .push, none, true, 1, none⟩,
    ⟨.load 30 (.v 5), .push, none, true, 2, none⟩,
    ⟨.call 9 [(.l 2), (.l 1), (.l 0)], .push, none, false, 3, (some 0)⟩,
    ⟨.extract (.l 0) 0, .push, none, true, 5, none⟩,
    ⟨.extract (.l 1) 1, .push, none, true, 6, none⟩,
    ⟨.alloc 30, (.var 7), none, false, 7, (some 1)⟩,
    ⟨.store 30 (.v 7) (.l 1), .none, none, false, 8, none⟩,
    ⟨.mv (.l 0), (.var 6), none, true, 9, none⟩]) (.seq (.seq (.reg [⟨.bin .eql 3 false true (.v 6) (.k (.int .i64 14)), .push, none, false, 1, none⟩]) (.cond (.l 0) (.seq (.reg [⟨.mv (.k (.bool false)), (.var 8), none, true, 0, none⟩,
    ⟨.mv (.k (.int .i64 14)), (.var 9), none, true, 1, none⟩]) .ret) .skip)) (.seq (.reg [⟨.bin .eql 3 false true (.v 6) (.k (.int .i64 0)), .push, none, false, 1, none⟩,
    ⟨.load 30 (.v 7), .push, (some ((.l 0), true)), true, 3, none⟩,
    ⟨.load 30 (.v 5), .push, (some ((.l 1), true)), true, 4, none⟩,
    ⟨.call 11 [(.l 1), (.l 0)], .push, (some ((.l 2), true)), false, 5, (some 0)⟩,
    ⟨.pick (.l 3) (.l 0) (.k (.bool false)), .push, none, true, 6, none⟩,
    ⟨.mv (.l 0), (.var 8), none, true, 7, none⟩,
    ⟨.mv (.k (.int .i64 0)), (.var 9), none, true, 8, none⟩]) .ret)))), [.tmp (.v 8), .tmp (.v 9)]⟩
noncomputable def G34 (E : Env) : ZFn := ⟨26, [0, 1, 2, 3, 4, 5, 9, 8, 6, 7], fun cy Y fuel =>
  (zSeq (zReg fun k => (zStep E (cy Y) ⟨.box 24 (.v 0), (.var 3), none, false, 0, (some 0)⟩) ((zStep E (cy Y) ⟨.box 30 (.v 1), (.var 4), none, false, 1, (some 1)⟩) ((zStep E (cy Y) ⟨.box 30 (.v 2), (.var 5), none, false, 2, (some 2)⟩) ((zDst (.var 8) (vMv (.k (.bool false)))) ((zDst (.var 9) (vMv (.k (.int .i64 0)))) k)))))
  (zSeq (zReg fun k => (zDstW .push (wLoad 2 true (.v 3))) ((zDstW .push (wLoad 5 true (.v 4))) ((zDstW .push (wLoad 5 true (.v 5))) ((zStep E (cy Y) ⟨.call 9 [(.l 2), (.l 1), (.l 0)], .push, none, false, 3, (some 0)⟩) ((zDst .push (vExtract 0 (.l 0))) ((zDst .push (vExtract 1 (.l 1))) ((zStep E (cy Y) ⟨.alloc 30, (.var 7), none, false, 7, (some 1)⟩) ((zStep E (cy Y) ⟨.store 30 (.v 7) (.l 1), .none, none, false, 8, none⟩) ((zDst (.var 6) (vMv (.l 0))) k)))))))))
  (zSeq (zSeq (zReg fun k => (zDst .push (vInt E fEql .eql 3 false true (.v 6) (.k (.int .i64 14)))) k)
  (zCond (.l 0) (zSeq (zReg fun k => (zDst (.var 8) (vMv (.k (.bool false)))) ((zDst (.var 9) (vMv (.k (.int .i64 14)))) k))
  zRet) zSkip))
  (zSeq (zReg fun k => (zDst .push (vInt E fEql .eql 3 false true (.v 6) (.k (.int .i64 0)))) ((zG (.l 0) true .push (zDstW .push (wLoad 5 true (.v 7)))) ((zG (.l 1) true .push (zDstW .push (wLoad 5 true (.v 5)))) ((zG (.l 2) true .push (zCall (cy Y) 11 [(.l 1), (.l 0)] .push)) ((zDst .push (vPick (.l 3) (.l 0) (.k (.bool false)))) ((zDst (.var 8) (vMv (.l 0))) ((zDst (.var 9) (vMv (.k (.int .i64 0)))) k)))))))
  zRet)))), [.tmp (.v 8), .tmp (.v 9)]⟩
theorem G34_ok (fn : Nat → Option Func) (pu : Nat → Bool) (pr : Nat → List AV → Option (Heap → Option (Eff × Acc))) : ZOk ⟨Tryz.tyT, fn, pu, pr⟩ npT F34 (G34 ⟨Tryz.tyT, fn, pu, pr⟩) := ⟨rfl, rfl, rfl, fun cy Y k => by kernel_rfl⟩
noncomputable def F36 : FFn := ⟨8, [0, 1, 4], (.seq (.reg [⟨.mv (.k (.sl 0 [] true)), (.var 2), none, true, 0, none⟩]) (.seq (.reg [⟨.call 65 [(.v 0), (.v 1), (.k (.clo 66 [])), (.k (.clo 67 []))], .push, none, false, 2, (some 0)⟩,
    ⟨.mv (.l 0), (.var 2), none, true, 3, none⟩]) .ret)), [.tmp (.v 2)]⟩
noncomputable def G36 (E : Env) : ZFn := ⟨8, [0, 1, 4], fun cy Y fuel =>
  (zSeq (zReg fun k => (zDst (.var 2) (vMv (.k (.sl 0 [] true)))) k)
  (zSeq (zReg fun k => (zCall (cy Y) 65 [(.v 0), (.v 1), (.k (.clo 66 [])), (.k (.clo 67 []))] .push) ((zDst (.var 2) (vMv (.l 0))) k))
  zRet)), [.tmp (.v 2)]⟩
theorem G36_ok (fn : Nat → Option Func) (pu : Nat → Bool) (pr : Nat → List AV → Option (Heap → Option (Eff × Acc))) : ZOk ⟨Tryz.tyT, fn, pu, pr⟩ npT F36 (G36 ⟨Tryz.tyT, fn, pu, pr⟩) := ⟨rfl, rfl, rfl, fun cy Y k => by kernel_rfl⟩
noncomputable def F37 : FFn := ⟨36, [0, 11, 10, 9, 3, 5, 27, 26, 25, 6, 8, 2], (.seq (.reg [⟨.mv (.k (.sl 0 [] true)), (.var 11), none, true, 0, none⟩]) (.seq (.reg [⟨.mv (.k (.int .i64 0)), (.var 4), none, true, 0, none⟩]) (.seq (.seq (.reg [⟨.mv (.v 0), (.var 3), none, true, 0, none⟩,
    ⟨.len 27 (.v 3), (.var 2), none, false, 1, none⟩,
    ⟨.mv (.k (.int .i64 0)), (.var 1), none, true, 2, none⟩]) (.block 0 (.loop (.seq (.reg [⟨.bin .lss 3 false false (.v 1) (.v 2), .push, none, false, 0, none⟩]) (.seq (.cond (.l 0) .skip (.exit 0)) (.seq (.block 1 (.seq (.reg [⟨.indexAddr 27 (.v 3) (.v 1), .push, none, true, 0, none⟩,
    ⟨.load 58 (.l 0), .push, none, true, 1, none⟩,
    ⟨.mv (.l 0), (.var 5), none, true, 2, none⟩]) (.seq (.reg [⟨.mv (.v 4), .push, none, true, 0, none⟩,
    ⟨.len 58 (.v 5), .push, none, false, 2, none⟩,
    ⟨.bin .add 3 false false (.l 1) (.l 0), .push, none, false, 3, none⟩,
    ⟨.mv (.l 0), (.var 4), none, true, 4, none⟩]) (.seq (.reg [⟨.bin .lss 3 false true (.v 4) (.k (.int .i64 0)), .push, none, false, 1, none⟩]) (.cond (.l 0) (.reg [⟨.mkIface 9 (.k (.str [108, 101, 110, 32, 111, 117, 116, 32, 111, 102, 32, 114, 97, 110, 103, 101])), .push, none, false, 0, none⟩,
    ⟨.fail, .none, none, false, 1, none⟩]) .skip))))) (.reg [⟨.bin .add 3 false true (.v 1) (.k (.int .i64 1)), .push, none, false, 0, none⟩,
    ⟨.mv (.l 0), (.var 1), none, true, 1, none⟩]))))))) (.seq (.reg [⟨.call 68 [(.k (.sl 0 [] true)), (.v 4)], .push, none, false, 1, (some 0)⟩,
    ⟨.mv (.l 0), (.var 9), none, true, 2, none⟩]) (.seq (.seq (.reg [⟨.mv (.v 0), (.var 8), none, true, 0, none⟩,
    ⟨.len 27 (.v 8), (.var 7), none, false, 1, none⟩,
    ⟨.mv (.k (.int .i64 0)), (.var 6), none, true, 2, none⟩]) (.block 2 (.loop (.seq (.reg [⟨.bin .lss 3 false false (.v 6) (.v 7), .push, none, false, 0, none⟩]) (.seq (.cond (.l 0) .skip (.exit 2)) (.seq (.block 3 (.seq (.reg [⟨.indexAddr 27 (.v 8) (.v 6), .push, none, true, 0, none⟩,
    ⟨.load 58 (.l 0), .push, none, true, 1, none⟩,
    ⟨.mv (.l 0), (.var 10), none, true, 2, none⟩]) (.reg [⟨.mv (.v 9), .push, none, true, 0, none⟩,
    ⟨.append 58 58 (.l 0) (.v 10), .push, none, false, 2, (some 0)⟩,
    ⟨.mv (.l 0), (.var 9), none, true, 3, none⟩]))) (.reg [⟨.bin .add 3 false true (.v 6) (.k (.int .i64 1)), .push, none, false, 0, none⟩,
    ⟨.mv (.l 0), (.var 6), none, true, 1, none⟩]))))))) (.seq (.reg [⟨.mv (.v 9), (.var 11), none, true, 1, none⟩]) .ret)))))), [.tmp (.v 11)]⟩
noncomputable def G37 (E : Env) : ZFn := ⟨36, [0, 11, 10, 9, 3, 5, 27, 26, 25, 6, 8, 2], fun cy Y fuel =>
  (zSeq (zReg fun k => (zDst (.var 11) (vMv (.k (.sl 0 [] true)))) k)
  (zSeq (zReg fun k => (zDst (.var 4) (vMv (.k (.int .i64 0)))) k)
  (zSeq (zSeq (zReg fun k => (zDst (.var 3) (vMv (.v 0))) ((zDst (.var 2) (vLenL (.v 3))) ((zDst (.var 1) (vMv (.k (.int .i64 0)))) k)))
  (zBlock 0 (zLoop fuel (zSeq (zReg fun k => (zDst .push (vInt E fLss .lss 3 false false (.v 1) (.v 2))) k)
  (zSeq (zCond (.l 0) zSkip (zExit 0))
  (zSeq (zBlock 1 (zSeq (zReg fun k => (zDst .push (vIndexAddr 1 (.v 3) (.v 1))) ((zDstW .push (wLoad 1 false (.l 0))) ((zDst (.var 5) (vMv (.l 0))) k)))
  (zSeq (zReg fun k => (zDst .push (vMv (.v 4))) ((zDst .push (vLenL (.v 5))) ((zDst .push (vInt E fAdd .add 3 false false (.l 1) (.l 0))) ((zDst (.var 4) (vMv (.l 0))) k))))
  (zSeq (zReg fun k => (zDst .push (vInt E fLss .lss 3 false true (.v 4) (.k (.int .i64 0)))) k)
  (zCond (.l 0) (zReg fun k => (zStep E (cy Y) ⟨.mkIface 9 (.k (.str [108, 101, 110, 32, 111, 117, 116, 32, 111, 102, 32, 114, 97, 110, 103, 101])), .push, none, false, 0, none⟩) ((zStep E (cy Y) ⟨.fail, .none, none, false, 1, none⟩) k)) zSkip)))))
  (zReg fun k => (zDst .push (vInt E fAdd .add 3 false true (.v 1) (.k (.int .i64 1)))) ((zDst (.var 1) (vMv (.l 0))) k))))))))
  (zSeq (zReg fun k => (zCall (cy Y) 68 [(.k (.sl 0 [] true)), (.v 4)] .push) ((zDst (.var 9) (vMv (.l 0))) k))
  (zSeq (zSeq (zReg fun k => (zDst (.var 8) (vMv (.v 0))) ((zDst (.var 7) (vLenL (.v 8))) ((zDst (.var 6) (vMv (.k (.int .i64 0)))) k)))
  (zBlock 2 (zLoop fuel (zSeq (zReg fun k => (zDst .push (vInt E fLss .lss 3 false false (.v 6) (.v 7))) k)
  (zSeq (zCond (.l 0) zSkip (zExit 2))
  (zSeq (zBlock 3 (zSeq (zReg fun k => (zDst .push (vIndexAddr 1 (.v 8) (.v 6))) ((zDstW .push (wLoad 1 false (.l 0))) ((zDst (.var 10) (vMv (.l 0))) k)))
  (zReg fun k => (zDst .push (vMv (.v 9))) ((zStep E (cy Y) ⟨.append 58 58 (.l 0) (.v 10), .push, none, false, 2, (some 0)⟩) ((zDst (.var 9) (vMv (.l 0))) k)))))
  (zReg fun k => (zDst .push (vInt E fAdd .add 3 false true (.v 6) (.k (.int .i64 1)))) ((zDst (.var 6) (vMv (.l 0))) k))))))))
  (zSeq (zReg fun k => (zDst (.var 11) (vMv (.v 9))) k)
  zRet)))))), [.tmp (.v 11)]⟩
theorem G37_ok (fn : Nat → Option Func) (pu : Nat → Bool) (pr : Nat → List AV → Option (Heap → Option (Eff × Acc))) : ZOk ⟨Tryz.tyT, fn, pu, pr⟩ npT F37 (G37 ⟨Tryz.tyT, fn, pu, pr⟩) := ⟨rfl, rfl, rfl, fun cy Y k => by kernel_rfl⟩
noncomputable def F38 : FFn := ⟨11, [0, 2], (.seq (.reg [⟨.len 26 (.v 0), .push, none, false, 1, none⟩,
    ⟨.mv (.l 0), (.var 1), none, true, 2, none⟩]) (.reg [⟨.conv 3 47 (.v 1), .push, none, false, 3, none⟩,
    ⟨.call 70 [(.l 0)], .push, none, false, 4, (some 0)⟩,
    ⟨.call 69 [(.v 0), (.k (.int .i64 0)), (.v 1), (.l 0)], .push, none, false, 5, (some 1)⟩])), []⟩
noncomputable def G38 (E : Env) : ZFn := ⟨11, [0, 2], fun cy Y fuel =>
  (zSeq (zReg fun k => (zDst .push (vLenL (.v 0))) ((zDst (.var 1) (vMv (.l 0))) k))
  (zReg fun k => (zDst .push (vConv .u64 (.v 1))) ((zCall (cy Y) 70 [(.l 0)] .push) ((zCall (cy Y) 69 [(.v 0), (.k (.int .i64 0)), (.v 1), (.l 0)] .push) k)))), []⟩
theorem G38_ok (fn : Nat → Option Func) (pu : Nat → Bool) (pr : Nat → List AV → Option (Heap → Option (Eff × Acc))) : ZOk ⟨Tryz.tyT, fn, pu, pr⟩ npT F38 (G38 ⟨Tryz.tyT, fn, pu, pr⟩) := ⟨rfl, rfl, rfl, fun cy Y k => by kernel_rfl⟩
noncomputable def F39 : FFn := ⟨4, [0, 1, 2], (.seq (.reg [⟨.box 26 (.v 0), (.var 1), none, false, 0, (some 0)⟩,
    ⟨.mv (.k .nilFunc), (.var 2), none, true, 1, none⟩]) (.seq (.reg [⟨.mkFunc 71 [(.v 1)], .push, none, false, 0, none⟩,
    ⟨.mv (.l 0), (.var 2), none, true, 1, none⟩]) .ret)), [.tmp (.v 2)]⟩
noncomputable def G39 (E : Env) : ZFn := ⟨4, [0, 1, 2], fun cy Y fuel =>
  (zSeq (zReg fun k => (zStep E (cy Y) ⟨.box 26 (.v 0), (.var 1), none, false, 0, (some 0)⟩) ((zDst (.var 2) (vMv (.k .nilFunc))) k))
  (zSeq (zReg fun k => (zStep E (cy Y) ⟨.mkFunc 71 [(.v 1)], .push, none, false, 0, none⟩) ((zDst (.var 2) (vMv (.l 0))) k))
  zRet)), [.tmp (.v 2)]⟩
theorem G39_ok (fn : Nat → Option Func) (pu : Nat → Bool) (pr : Nat → List AV → Option (Heap → Option (Eff × Acc))) : ZOk ⟨Tryz.tyT, fn, pu, pr⟩ npT F39 (G39 ⟨Tryz.tyT, fn, pu, pr⟩) := ⟨rfl, rfl, rfl, fun cy Y k => by kernel_rfl⟩
noncomputable def F40 : FFn := ⟨4, [0, 1, 2], (.seq (.reg [⟨.box 27 (.v 0), (.var 1), none, false, 0, (some 0)⟩,
    ⟨.mv (.k .nilFunc), (.var 2), none, true, 1, none⟩]) (.seq (.reg [⟨.mkFunc 72 [(.v 1)], .push, none, false, 0, none⟩,
    ⟨.mv (.l 0), (.var 2), none, true, 1, none⟩]) .ret)), [.tmp (.v 2)]⟩
noncomputable def G40 (E : Env) : ZFn := ⟨4, [0, 1, 2], fun cy Y fuel =>
  (zSeq (zReg fun k => (zStep E (cy Y) ⟨.box 27 (.v 0), (.var 1), none, false, 0, (some 0)⟩) ((zDst (.var 2) (vMv (.k .nilFunc))) k))
  (zSeq (zReg fun k => (zStep E (cy Y) ⟨.mkFunc 72 [(.v 1)], .push, none, false, 0, none⟩) ((zDst (.var 2) (vMv (.l 0))) k))
  zRet)), [.tmp (.v 2)]⟩
theorem G40_ok (fn : Nat → Option Func) (pu : Nat → Bool) (pr : Nat → List AV → Option (Heap → Option (Eff × Acc))) : ZOk ⟨Tryz.tyT, fn, pu, pr⟩ npT F40 (G40 ⟨Tryz.tyT, fn, pu, pr⟩) := ⟨rfl, rfl, rfl, fun cy Y k => by kernel_rfl⟩
noncomputable def F43 : FFn := ⟨5, [0, 1, 2], (.seq (.reg [⟨.box 24 (.v 0), (.var 1), none, false, 0, (some 0)⟩,
    ⟨.mv (.k (.bool false)), (.var 2), none, true, 1, none⟩]) (.seq (.reg [⟨.load 24 (.v 1), .push, none, true, 0, none⟩,
    ⟨.call 73 [(.l 0), (.k (.int .i64 16))], .push, none, false, 1, (some 0)⟩,
    ⟨.mv (.l 0), (.var 2), none, true, 2, none⟩]) .ret)), [.tmp (.v 2)]⟩
noncomputable def G43 (E : Env) : ZFn := ⟨5, [0, 1, 2], fun cy Y fuel =>
  (zSeq (zReg fun k => (zStep E (cy Y) ⟨.box 24 (.v 0), (.var 1), none, false, 0, (some 0)⟩) ((zDst (.var 2) (vMv (.k (.bool false)))) k))
  (zSeq (zReg fun k => (zDstW .push (wLoad 2 true (.v 1))) ((zCall (cy Y) 73 [(.l 0), (.k (.int .i64 16))] .push) ((zDst (.var 2) (vMv (.l 0))) k)))
  zRet)), [.tmp (.v 2)]⟩
theorem G43_ok (fn : Nat → Option Func) (pu : Nat → Bool) (pr : Nat → List AV → Option (Heap → Option (Eff × Acc))) : ZOk ⟨Tryz.tyT, fn, pu, pr⟩ npT F43 (G43 ⟨Tryz.tyT, fn, pu, pr⟩) := ⟨rfl, rfl, rfl, fun cy Y k => by kernel_rfl⟩
noncomputable def F44 : FFn := ⟨137, [0, 1, 2, 3, 25, 5, 4], (.seq (.reg [⟨.box 24 (.v 0), (.var 2), none, false, 0, (some 0)⟩,
    ⟨.box 30 (.v 1), (.var 3), none, false, 1, (some 1)⟩,
    ⟨.mv (.k (.bool false)), (.var 6), none, true, 2, none⟩]) (.seq (.seq (.reg [⟨.fieldAddr 24 (.v 2) 0, .push, none, true, 0, none⟩,
    ⟨.load 3 (.l 0), .push, none, true, 1, none⟩,
    ⟨.load 30 (.v 3), .push, none, true, 2, none⟩,
    ⟨.call 74 [(.l 1), (.l 0)], .push, none, false, 3, (some 0)⟩,
    ⟨.un .not (.l 0), .push, none, false, 4, none⟩,
    ⟨.fieldAddr 30 (.v 3) 4, .push, (some ((.l 0), false)), true, 6, none⟩,
    ⟨.load 28 (.l 0), .push, (some ((.l 1), false)), true, 7, none⟩,
    ⟨.len 28 (.l 0), .push, (some ((.l 2), false)), false, 8, none⟩,
    ⟨.bin .gtr 3 false true (.l 0) (.k (.int .i64 40)), .push, (some ((.l 3), false)), false, 9, none⟩,
    ⟨.pick (.l 4) (.k (.bool true)) (.l 0), .push, none, true, 10, none⟩,
    ⟨.fieldAddr 30 (.v 3) 3, .push, (some ((.l 0), false)), true, 12, none⟩,
    ⟨.load 27 (.l 0), .push, (some ((.l 1), false)), true, 13, none⟩,
    ⟨.len 27 (.l 0), .push, (some ((.l 2), false)), false, 14, none⟩,
    ⟨.bin .gtr 3 false true (.l 0) (.k (.int .i64 40)), .push, (some ((.l 3), false)), false, 15, none⟩,
    ⟨.pick (.l 4) (.k (.bool true)) (.l 0), .push, none, true, 16, none⟩]) (.cond (.l 0) (.seq (.reg [⟨.mv (.k (.bool false)), (.var 6), none, true, 0, none⟩]) .ret) .skip)) (.seq (.reg [⟨.mkFunc 75 [(.v 2)], .push, none, false, 0, none⟩,
    ⟨.alloc 125, (.var 5), none, false, 1, (some 0)⟩,
    ⟨.store 125 (.v 5) (.l 0), .none, none, false, 2, none⟩]) (.seq (.seq (.reg [⟨.fieldAddr 24 (.v 2) 0, .push, none, true, 0, none⟩,
    ⟨.load 3 (.l 0), (.var 4), none, true, 1, none⟩]) (.block 0 (.seq (.reg [⟨.bin .eql 3 false true (.v 4) (.k (.int .i64 1)), .push, none, false, 0, none⟩,
    ⟨.mv (.l 0), .push, none, true, 1, none⟩]) (.cond (.l 0) (.seq (.reg [⟨.mv (.k (.bool true)), (.var 6), none, true, 0, none⟩]) .ret) (.seq (.reg [⟨.bin .eql 3 false true (.v 4) (.k (.int .i64 2)), .push, none, false, 0, none⟩,
    ⟨.mv (.l 0), .push, none, true, 1, none⟩]) (.cond (.l 0) (.seq (.reg [⟨.fieldAddr 30 (.v 3) 0, .push, none, true, 0, none⟩,
    ⟨.load 25 (.l 0), .push, none, true, 1, none⟩,
    ⟨.bin .leq 25 false true (.l 0) (.k (.int .u64 1)), .push, none, false, 2, none⟩,
    ⟨.mv (.l 0), (.var 6), none, true, 3, none⟩]) .ret) (.seq (.reg [⟨.bin .eql 3 false true (.v 4) (.k (.int .i64 3)), .push, none, false, 0, none⟩,
    ⟨.mv (.l 0), .push, none, true, 1, none⟩]) (.cond (.l 0) (.seq (.reg [⟨.fieldAddr 30 (.v 3) 2, .push, none, true, 0, none⟩,
    ⟨.load 26 (.l 0), .push, none, true, 1, none⟩,
    ⟨.call 76 [(.l 0)], .push, none, false, 2, (some 0)⟩,
    ⟨.mv (.l 0), (.var 6), none, true, 3, none⟩]) .ret) (.seq (.reg [⟨.bin .eql 3 false true (.v 4) (.k (.int .i64 4)), .push, none, false, 0, none⟩,
    ⟨.mv (.l 0), .push, none, true, 1, none⟩]) (.cond (.l 0) (.seq (.reg [⟨.fieldAddr 30 (.v 3) 2, .push, none, true, 0, none⟩,
    ⟨.load 26 (.l 0), .push, none, true, 1, none⟩,
    ⟨.call 76 [(.l 0)], .push, none, false, 2, (some 0)⟩,
    ⟨.fieldAddr 30 (.v 3) 2, .push, (some ((.l 0), true)), true, 4, none⟩,
    ⟨.load 26 (.l 0), .push, (some ((.l 1), true)), true, 5, none⟩,
    ⟨.len 26 (.l 0), .push, (some ((.l 2), true)), false, 6, none⟩,
    ⟨.fieldAddr 30 (.v 3) 4, .push, (some ((.l 3), true)), true, 7, none⟩,
    ⟨.load 28 (.l 0), .push, (some ((.l 4), true)), true, 8, none⟩,
    ⟨.len 28 (.l 0), .push, (some ((.l 5), true)), false, 9, none⟩,
    ⟨.bin .eql 3 false false (.l 3) (.l 0), .push, (some ((.l 6), true)), false, 10, none⟩,
    ⟨.pick (.l 7) (.l 0) (.k (.bool false)), .push, none, true, 11, none⟩,
    ⟨.fieldAddr 30 (.v 3) 4, .push, (some ((.l 0), true)), true, 13, none⟩,
    ⟨.load 28 (.l 0), .push, (some ((.l 1), true)), true, 14, none⟩,
    ⟨.mkFunc 78 [(.v 5), (.v 2)], .push, (some ((.l 2), true)), false, 15, none⟩,
    ⟨.call 77 [(.l 1), (.l 0)], .push, (some ((.l 3), true)), false, 16, (some 1)⟩,
    ⟨.un .not (.l 0), .push, (some ((.l 4), true)), false, 17, none⟩,
    ⟨.pick (.l 5) (.l 0) (.k (.bool false)), .push, none, true, 18, none⟩,
    ⟨.mv (.l 0), (.var 6), none, true, 19, none⟩]) .ret) (.seq (.reg [⟨.bin .eql 3 false true (.v 4) (.k (.int .i64 5)), .push, none, false, 0, none⟩,
    ⟨.mv (.l 0), .push, none, true, 1, none⟩]) (.cond (.l 0) (.seq (.dreg 2 [0, 1, 3, 7, 15, 31, 63, 127, 255, 31, 543, 1567, 3615, 8191, 16383, 32767, 65535, 131071, 262143, 524287, 65535, 1114111, 3211263, 7405567, 16777215, 33554431, 67108863] [⟨.fieldAddr 30 (.v 3) 4, .push, none, true, 0, none⟩,
    ⟨.load 28 (.l 0), .push, none, true, 1, none⟩,
    ⟨.len 28 (.l 0), .push, none, false, 2, none⟩,
    ⟨.bin .eql 3 false true (.l 0) (.k (.int .i64 2)), .push, none, false, 3, none⟩,
    ⟨.fieldAddr 24 (.v 2) 1, .push, (some ((.l 0), true)), true, 5, none⟩,
    ⟨.load 22 (.l 0), .push, (some ((.l 1), true)), true, 6, none⟩,
    ⟨.indexAddr 22 (.l 0) (.k (.int .i64 0)), .push, (some ((.l 2), true)), true, 7, none⟩,
    ⟨.load 24 (.l 0), .push, (some ((.l 3), true)), true, 8, none⟩,
    ⟨.fieldAddr 30 (.v 3) 4, .push, (some ((.l 4), true)), true, 9, none⟩,
    ⟨.load 28 (.l 0), .push, (some ((.l 5), true)), true, 10, none⟩,
    ⟨.indexAddr 28 (.l 0) (.k (.int .i64 0)), .push, (some ((.l 6), true)), true, 11, none⟩,
    ⟨.load 30 (.l 0), .push, (some ((.l 7), true)), true, 12, none⟩,
    ⟨.call 44 [(.l 4), (.l 0)], .push, (some ((.l 8), true)), false, 13, (some 0)⟩,
    ⟨.pick (.l 9) (.l 0) (.k (.bool false)), .push, none, true, 14, none⟩,
    ⟨.fieldAddr 24 (.v 2) 1, .push, (some ((.l 0), true)), true, 16, none⟩,
    ⟨.load 22 (.l 0), .push, (some ((.l 1), true)), true, 17, none⟩,
    ⟨.indexAddr 22 (.l 0) (.k (.int .i64 1)), .push, (some ((.l 2), true)), true, 18, none⟩,
    ⟨.load 24 (.l 0), .push, (some ((.l 3), true)), true, 19, none⟩,
    ⟨.fieldAddr 30 (.v 3) 4, .push, (some ((.l 4), true)), true, 20, none⟩,
    ⟨.load 28 (.l 0), .push, (some ((.l 5), true)), true, 21, none⟩,
    ⟨.indexAddr 28 (.l 0) (.k (.int .i64 1)), .push, (some ((.l 6), true)), true, 22, none⟩,
    ⟨.load 30 (.l 0), .push, (some ((.l 7), true)), true, 23, none⟩,
    ⟨.call 44 [(.l 4), (.l 0)], .push, (some ((.l 8), true)), false, 24, (some 1)⟩,
    ⟨.pick (.l 9) (.l 0) (.k (.bool false)), .push, none, true, 25, none⟩,
    ⟨.mv (.l 0), (.var 6), none, true, 26, none⟩]) .ret) (.seq (.reg [⟨.bin .eql 3 false true (.v 4) (.k (.int .i64 6)), .push, none, false, 0, none⟩,
    ⟨.mv (.l 0), .push, none, true, 1, none⟩]) (.cond (.l 0) (.seq (.reg [⟨.load 30 (.v 3), .push, none, true, 0, none⟩,
    ⟨.call 79 [(.l 0)], .push, none, false, 1, (some 0)⟩,
    ⟨.mv (.l 0), (.var 6), none, true, 2, none⟩]) .ret) (.seq (.reg [⟨.bin .eql 3 false true (.v 4) (.k (.int .i64 7)), .push, none, false, 0, none⟩,
    ⟨.mv (.l 0), .push, none, true, 1, none⟩]) (.cond (.l 0) (.seq (.reg [⟨.fieldAddr 30 (.v 3) 3, .push, none, true, 0, none⟩,
    ⟨.load 27 (.l 0), .push, none, true, 1, none⟩,
    ⟨.len 27 (.l 0), .push, none, false, 2, none⟩,
    ⟨.bin .eql 3 false true (.l 0) (.k (.int .i64 0)), .push, none, false, 3, none⟩,
    ⟨.fieldAddr 30 (.v 3) 3, .push, (some ((.l 0), false)), true, 5, none⟩,
    ⟨.load 27 (.l 0), .push, (some ((.l 1), false)), true, 6, none⟩,
    ⟨.len 27 (.l 0), .push, (some ((.l 2), false)), false, 7, none⟩,
    ⟨.bin .eql 3 false true (.l 0) (.k (.int .i64 1)), .push, (some ((.l 3), false)), false, 8, none⟩,
    ⟨.mv (.l 0), .push, (some ((.l 4), false)), true, 9, none⟩,
    ⟨.fieldAddr 30 (.v 3) 3, .push, (some ((.l 0), true)), true, 10, none⟩,
    ⟨.load 27 (.l 0), .push, (some ((.l 1), true)), true, 11, none⟩,
    ⟨.indexAddr 27 (.l 0) (.k (.int .i64 0)), .push, (some ((.l 2), true)), true, 12, none⟩,
    ⟨.load 58 (.l 0), .push, (some ((.l 3), true)), true, 13, none⟩,
    ⟨.len 58 (.l 0), .push, (some ((.l 4), true)), false, 14, none⟩,
    ⟨.bin .gtr 3 false true (.l 0) (.k (.int .i64 0)), .push, (some ((.l 5), true)), false, 15, none⟩,
    ⟨.pick (.l 6) (.l 0) (.k (.bool false)), .push, (some ((.l 11), false)), true, 16, none⟩,
    ⟨.mv (.l 0), .push, (some ((.l 12), false)), true, 17, none⟩,
    ⟨.fieldAddr 30 (.v 3) 3, .push, (some ((.l 0), true)), true, 18, none⟩,
    ⟨.load 27 (.l 0), .push, (some ((.l 1), true)), true, 19, none⟩,
    ⟨.indexAddr 27 (.l 0) (.k (.int .i64 0)), .push, (some ((.l 2), true)), true, 20, none⟩,
    ⟨.load 58 (.l 0), .push, (some ((.l 3), true)), true, 21, none⟩,
    ⟨.call 80 [(.l 0)], .push, (some ((.l 4), true)), false, 22, (some 0)⟩,
    ⟨.pick (.l 5) (.l 0) (.k (.bool false)), .push, (some ((.l 18), false)), true, 23, none⟩,
    ⟨.pick (.l 19) (.k (.bool true)) (.l 0), .push, none, true, 24, none⟩,
    ⟨.mv (.l 0), (.var 6), none, true, 25, none⟩]) .ret) .skip)))))))))))))))) (.seq (.reg [⟨.fieldAddr 30 (.v 3) 3, .push, none, true, 0, none⟩,
    ⟨.load 27 (.l 0), .push, none, true, 1, none⟩,
    ⟨.len 27 (.l 0), .push, none, false, 2, none⟩,
    ⟨.fieldAddr 30 (.v 3) 4, .push, none, true, 3, none⟩,
    ⟨.load 28 (.l 0), .push, none, true, 4, none⟩,
    ⟨.len 28 (.l 0), .push, none, false, 5, none⟩,
    ⟨.bin .eql 3 false false (.l 3) (.l 0), .push, none, false, 6, none⟩,
    ⟨.fieldAddr 30 (.v 3) 3, .push, (some ((.l 0), true)), true, 8, none⟩,
    ⟨.load 27 (.l 0), .push, (some ((.l 1), true)), true, 9, none⟩,
    ⟨.call 81 [(.l 0)], .push, (some ((.l 2), true)), false, 10, (some 0)⟩,
    ⟨.pick (.l 3) (.l 0) (.k (.bool false)), .push, none, true, 11, none⟩,
    ⟨.fieldAddr 30 (.v 3) 4, .push, (some ((.l 0), true)), true, 13, none⟩,
    ⟨.load 28 (.l 0), .push, (some ((.l 1), true)), true, 14, none⟩,
    ⟨.mkFunc 82 [(.v 5)], .push, (some ((.l 2), true)), false, 15, none⟩,
    ⟨.call 77 [(.l 1), (.l 0)], .push, (some ((.l 3), true)), false, 16, (some 1)⟩,
    ⟨.un .not (.l 0), .push, (some ((.l 4), true)), false, 17, none⟩,
    ⟨.pick (.l 5) (.l 0) (.k (.bool false)), .push, none, true, 18, none⟩,
    ⟨.mv (.l 0), (.var 6), none, true, 19, none⟩]) .ret))))), [.tmp (.v 6)]⟩
noncomputable def G44 (E : Env) : ZFn := ⟨137, [0, 1, 2, 3, 25, 5, 4], fun cy Y fuel =>
  (zSeq (zReg fun k => (zStep E (cy Y) ⟨.box 24 (.v 0), (.var 2), none, false, 0, (some 0)⟩) ((zStep E (cy Y) ⟨.box 30 (.v 1), (.var 3), none, false, 1, (some 1)⟩) ((zDst (.var 6) (vMv (.k (.bool false)))) k)))
  (zSeq (zSeq (zReg fun k => (zDst .push (vFieldAddr 0 (.v 2))) ((zDstW .push (wLoad 1 false (.l 0))) ((zDstW .push (wLoad 5 true (.v 3))) ((zCall (cy Y) 74 [(.l 1), (.l 0)] .push) ((zDst .push (vNot (.l 0))) ((zG (.l 0) false .push (zDst .push (vFieldAddr 4 (.v 3)))) ((zG (.l 1) false .push (zDstW .push (wLoad 1 false (.l 0)))) ((zG (.l 2) false .push (zDst .push (vLenL (.l 0)))) ((zG (.l 3) false .push (zDst .push (vInt E fGtr .gtr 3 false true (.l 0) (.k (.int .i64 40))))) ((zDst .push (vPick (.l 4) (.k (.bool true)) (.l 0))) ((zG (.l 0) false .push (zDst .push (vFieldAddr 3 (.v 3)))) ((zG (.l 1) false .push (zDstW .push (wLoad 1 false (.l 0)))) ((zG (.l 2) false .push (zDst .push (vLenL (.l 0)))) ((zG (.l 3) false .push (zDst .push (vInt E fGtr .gtr 3 false true (.l 0) (.k (.int .i64 40))))) ((zDst .push (vPick (.l 4) (.k (.bool true)) (.l 0))) k)))))))))))))))
  (zCond (.l 0) (zSeq (zReg fun k => (zDst (.var 6) (vMv (.k (.bool false)))) k)
  zRet) zSkip))
  (zSeq (zReg fun k => (zStep E (cy Y) ⟨.mkFunc 75 [(.v 2)], .push, none, false, 0, none⟩) ((zStep E (cy Y) ⟨.alloc 125, (.var 5), none, false, 1, (some 0)⟩) ((zStep E (cy Y) ⟨.store 125 (.v 5) (.l 0), .none, none, false, 2, none⟩) k)))
  (zSeq (zSeq (zReg fun k => (zDst .push (vFieldAddr 0 (.v 2))) ((zDstW (.var 4) (wLoad 1 false (.l 0))) k))
  (zBlock 0 (zSeq (zReg fun k => (zDst .push (vInt E fEql .eql 3 false true (.v 4) (.k (.int .i64 1)))) ((zDst .push (vMv (.l 0))) k))
  (zCond (.l 0) (zSeq (zReg fun k => (zDst (.var 6) (vMv (.k (.bool true)))) k)
  zRet) (zSeq (zReg fun k => (zDst .push (vInt E fEql .eql 3 false true (.v 4) (.k (.int .i64 2)))) ((zDst .push (vMv (.l 0))) k))
  (zCond (.l 0) (zSeq (zReg fun k => (zDst .push (vFieldAddr 0 (.v 3))) ((zDstW .push (wLoad 1 false (.l 0))) ((zDst .push (vInt E (fGen .leq) .leq 25 false true (.l 0) (.k (.int .u64 1)))) ((zDst (.var 6) (vMv (.l 0))) k))))
  zRet) (zSeq (zReg fun k => (zDst .push (vInt E fEql .eql 3 false true (.v 4) (.k (.int .i64 3)))) ((zDst .push (vMv (.l 0))) k))
  (zCond (.l 0) (zSeq (zReg fun k => (zDst .push (vFieldAddr 2 (.v 3))) ((zDstW .push (wLoad 1 false (.l 0))) ((zCall (cy Y) 76 [(.l 0)] .push) ((zDst (.var 6) (vMv (.l 0))) k))))
  zRet) (zSeq (zReg fun k => (zDst .push (vInt E fEql .eql 3 false true (.v 4) (.k (.int .i64 4)))) ((zDst .push (vMv (.l 0))) k))
  (zCond (.l 0) (zSeq (zReg fun k => (zDst .push (vFieldAddr 2 (.v 3))) ((zDstW .push (wLoad 1 false (.l 0))) ((zCall (cy Y) 76 [(.l 0)] .push) ((zG (.l 0) true .push (zDst .push (vFieldAddr 2 (.v 3)))) ((zG (.l 1) true .push (zDstW .push (wLoad 1 false (.l 0)))) ((zG (.l 2) true .push (zDst .push (vLenL (.l 0)))) ((zG (.l 3) true .push (zDst .push (vFieldAddr 4 (.v 3)))) ((zG (.l 4) true .push (zDstW .push (wLoad 1 false (.l 0)))) ((zG (.l 5) true .push (zDst .push (vLenL (.l 0)))) ((zG (.l 6) true .push (zDst .push (vInt E fEql .eql 3 false false (.l 3) (.l 0)))) ((zDst .push (vPick (.l 7) (.l 0) (.k (.bool false)))) ((zG (.l 0) true .push (zDst .push (vFieldAddr 4 (.v 3)))) ((zG (.l 1) true .push (zDstW .push (wLoad 1 false (.l 0)))) ((zG (.l 2) true .push (zStep E (cy Y) ⟨.mkFunc 78 [(.v 5), (.v 2)], .push, none, false, 15, none⟩)) ((zG (.l 3) true .push (zCall (cy Y) 77 [(.l 1), (.l 0)] .push)) ((zG (.l 4) true .push (zDst .push (vNot (.l 0)))) ((zDst .push (vPick (.l 5) (.l 0) (.k (.bool false)))) ((zDst (.var 6) (vMv (.l 0))) k))))))))))))))))))
  zRet) (zSeq (zReg fun k => (zDst .push (vInt E fEql .eql 3 false true (.v 4) (.k (.int .i64 5)))) ((zDst .push (vMv (.l 0))) k))
  (zCond (.l 0) (zSeq (zDreg 2 fun n0 k => (fun k sp => zDst .push (vFieldAddr 4 (.v 3)) (k sp)) ((zDstWD [0, 1, 3, 7, 15, 31, 63, 127, 255, 31, 543, 1567, 3615, 8191, 16383, 32767, 65535, 131071, 262143, 524287, 65535, 1114111, 3211263, 7405567, 16777215, 33554431, 67108863] 1 .push (wLoad 1 false (.l 0))) ((fun k sp => zDst .push (vLenL (.l 0)) (k sp)) ((fun k sp => zDst .push (vInt E fEql .eql 3 false true (.l 0) (.k (.int .i64 2))) (k sp)) ((zGD (.l 0) true .push (fun k sp => zDst .push (vFieldAddr 1 (.v 2)) (k sp))) ((zGD (.l 1) true .push (zDstWD [0, 1, 3, 7, 15, 31, 63, 127, 255, 31, 543, 1567, 3615, 8191, 16383, 32767, 65535, 131071, 262143, 524287, 65535, 1114111, 3211263, 7405567, 16777215, 33554431, 67108863] 6 .push (wLoad 1 false (.l 0)))) ((zGD (.l 2) true .push (fun k sp => zDst .push (vIndexAddr 2 (.l 0) (.k (.int .i64 0))) (k sp))) ((zGD (.l 3) true .push (zDstWD [0, 1, 3, 7, 15, 31, 63, 127, 255, 31, 543, 1567, 3615, 8191, 16383, 32767, 65535, 131071, 262143, 524287, 65535, 1114111, 3211263, 7405567, 16777215, 33554431, 67108863] 8 .push (wLoad 2 true (.l 0)))) ((zGD (.l 4) true .push (fun k sp => zDst .push (vFieldAddr 4 (.v 3)) (k sp))) ((zGD (.l 5) true .push (zDstWD [0, 1, 3, 7, 15, 31, 63, 127, 255, 31, 543, 1567, 3615, 8191, 16383, 32767, 65535, 131071, 262143, 524287, 65535, 1114111, 3211263, 7405567, 16777215, 33554431, 67108863] 10 .push (wLoad 1 false (.l 0)))) ((zGD (.l 6) true .push (fun k sp => zDst .push (vIndexAddr 5 (.l 0) (.k (.int .i64 0))) (k sp))) ((zGD (.l 7) true .push (zDstWD [0, 1, 3, 7, 15, 31, 63, 127, 255, 31, 543, 1567, 3615, 8191, 16383, 32767, 65535, 131071, 262143, 524287, 65535, 1114111, 3211263, 7405567, 16777215, 33554431, 67108863] 12 .push (wLoad 5 true (.l 0)))) ((zGD (.l 8) true .push (zCallD (cy Y) [0, 1, 3, 7, 15, 31, 63, 127, 255, 31, 543, 1567, 3615, 8191, 16383, 32767, 65535, 131071, 262143, 524287, 65535, 1114111, 3211263, 7405567, 16777215, 33554431, 67108863] 13 44 [(.l 4), (.l 0)] .push)) ((fun k sp => zDst .push (vPick (.l 9) (.l 0) (.k (.bool false))) (k sp)) ((zGD (.l 0) true .push (fun k sp => zDst .push (vFieldAddr 1 (.v 2)) (k sp))) ((zGD (.l 1) true .push (zDstWD [0, 1, 3, 7, 15, 31, 63, 127, 255, 31, 543, 1567, 3615, 8191, 16383, 32767, 65535, 131071, 262143, 524287, 65535, 1114111, 3211263, 7405567, 16777215, 33554431, 67108863] 17 .push (wLoad 1 false (.l 0)))) ((zGD (.l 2) true .push (fun k sp => zDst .push (vIndexAddr 2 (.l 0) (.k (.int .i64 1))) (k sp))) ((zGD (.l 3) true .push (zDstWD [0, 1, 3, 7, 15, 31, 63, 127, 255, 31, 543, 1567, 3615, 8191, 16383, 32767, 65535, 131071, 262143, 524287, 65535, 1114111, 3211263, 7405567, 16777215, 33554431, 67108863] 19 .push (wLoad 2 true (.l 0)))) ((zGD (.l 4) true .push (fun k sp => zDst .push (vFieldAddr 4 (.v 3)) (k sp))) ((zGD (.l 5) true .push (zDstWD [0, 1, 3, 7, 15, 31, 63, 127, 255, 31, 543, 1567, 3615, 8191, 16383, 32767, 65535, 131071, 262143, 524287, 65535, 1114111, 3211263, 7405567, 16777215, 33554431, 67108863] 21 .push (wLoad 1 false (.l 0)))) ((zGD (.l 6) true .push (fun k sp => zDst .push (vIndexAddr 5 (.l 0) (.k (.int .i64 1))) (k sp))) ((zGD (.l 7) true .push (zDstWD [0, 1, 3, 7, 15, 31, 63, 127, 255, 31, 543, 1567, 3615, 8191, 16383, 32767, 65535, 131071, 262143, 524287, 65535, 1114111, 3211263, 7405567, 16777215, 33554431, 67108863] 23 .push (wLoad 5 true (.l 0)))) ((zGD (.l 8) true .push (zCallD (cy Y) [0, 1, 3, 7, 15, 31, 63, 127, 255, 31, 543, 1567, 3615, 8191, 16383, 32767, 65535, 131071, 262143, 524287, 65535, 1114111, 3211263, 7405567, 16777215, 33554431, 67108863] 24 44 [(.l 4), (.l 0)] .push)) ((fun k sp => zDst .push (vPick (.l 9) (.l 0) (.k (.bool false))) (k sp)) ((fun k sp => zDst (.var 6) (vMv (.l 0)) (k sp)) k)))))))))))))))))))))))))
  zRet) (zSeq (zReg fun k => (zDst .push (vInt E fEql .eql 3 false true (.v 4) (.k (.int .i64 6)))) ((zDst .push (vMv (.l 0))) k))
  (zCond (.l 0) (zSeq (zReg fun k => (zDstW .push (wLoad 5 true (.v 3))) ((zCall (cy Y) 79 [(.l 0)] .push) ((zDst (.var 6) (vMv (.l 0))) k)))
  zRet) (zSeq (zReg fun k => (zDst .push (vInt E fEql .eql 3 false true (.v 4) (.k (.int .i64 7)))) ((zDst .push (vMv (.l 0))) k))
  (zCond (.l 0) (zSeq (zReg fun k => (zDst .push (vFieldAddr 3 (.v 3))) ((zDstW .push (wLoad 1 false (.l 0))) ((zDst .push (vLenL (.l 0))) ((zDst .push (vInt E fEql .eql 3 false true (.l 0) (.k (.int .i64 0)))) ((zG (.l 0) false .push (zDst .push (vFieldAddr 3 (.v 3)))) ((zG (.l 1) false .push (zDstW .push (wLoad 1 false (.l 0)))) ((zG (.l 2) false .push (zDst .push (vLenL (.l 0)))) ((zG (.l 3) false .push (zDst .push (vInt E fEql .eql 3 false true (.l 0) (.k (.int .i64 1))))) ((zG (.l 4) false .push (zDst .push (vMv (.l 0)))) ((zG (.l 0) true .push (zDst .push (vFieldAddr 3 (.v 3)))) ((zG (.l 1) true .push (zDstW .push (wLoad 1 false (.l 0)))) ((zG (.l 2) true .push (zDst .push (vIndexAddr 1 (.l 0) (.k (.int .i64 0))))) ((zG (.l 3) true .push (zDstW .push (wLoad 1 false (.l 0)))) ((zG (.l 4) true .push (zDst .push (vLenL (.l 0)))) ((zG (.l 5) true .push (zDst .push (vInt E fGtr .gtr 3 false true (.l 0) (.k (.int .i64 0))))) ((zG (.l 11) false .push (zDst .push (vPick (.l 6) (.l 0) (.k (.bool false))))) ((zG (.l 12) false .push (zDst .push (vMv (.l 0)))) ((zG (.l 0) true .push (zDst .push (vFieldAddr 3 (.v 3)))) ((zG (.l 1) true .push (zDstW .push (wLoad 1 false (.l 0)))) ((zG (.l 2) true .push (zDst .push (vIndexAddr 1 (.l 0) (.k (.int .i64 0))))) ((zG (.l 3) true .push (zDstW .push (wLoad 1 false (.l 0)))) ((zG (.l 4) true .push (zCall (cy Y) 80 [(.l 0)] .push)) ((zG (.l 18) false .push (zDst .push (vPick (.l 5) (.l 0) (.k (.bool false))))) ((zDst .push (vPick (.l 19) (.k (.bool true)) (.l 0))) ((zDst (.var 6) (vMv (.l 0))) k)))))))))))))))))))))))))
  zRet) zSkip))))))))))))))))
  (zSeq (zReg fun k => (zDst .push (vFieldAddr 3 (.v 3))) ((zDstW .push (wLoad 1 false (.l 0))) ((zDst .push (vLenL (.l 0))) ((zDst .push (vFieldAddr 4 (.v 3))) ((zDstW .push (wLoad 1 false (.l 0))) ((zDst .push (vLenL (.l 0))) ((zDst .push (vInt E fEql .eql 3 false false (.l 3) (.l 0))) ((zG (.l 0) true .push (zDst .push (vFieldAddr 3 (.v 3)))) ((zG (.l 1) true .push (zDstW .push (wLoad 1 false (.l 0)))) ((zG (.l 2) true .push (zCall (cy Y) 81 [(.l 0)] .push)) ((zDst .push (vPick (.l 3) (.l 0) (.k (.bool false)))) ((zG (.l 0) true .push (zDst .push (vFieldAddr 4 (.v 3)))) ((zG (.l 1) true .push (zDstW .push (wLoad 1 false (.l 0)))) ((zG (.l 2) true .push (zStep E (cy Y) ⟨.mkFunc 82 [(.v 5)], .push, none, false, 15, none⟩)) ((zG (.l 3) true .push (zCall (cy Y) 77 [(.l 1), (.l 0)] .push)) ((zG (.l 4) true .push (zDst .push (vNot (.l 0)))) ((zDst .push (vPick (.l 5) (.l 0) (.k (.bool false)))) ((zDst (.var 6) (vMv (.l 0))) k))))))))))))))))))
  zRet))))), [.tmp (.v 6)]⟩
theorem G44_ok (fn : Nat → Option Func) (pu : Nat → Bool) (pr : Nat → List AV → Option (Heap → Option (Eff × Acc))) : ZOk ⟨Tryz.tyT, fn, pu, pr⟩ npT F44 (G44 ⟨Tryz.tyT, fn, pu, pr⟩) := ⟨rfl, rfl, rfl, fun cy Y k => by kernel_rfl⟩
noncomputable def F45 : FFn := ⟨2, [0], (.seq (.reg [⟨.alloc 24, (.var 0), none, false, 0, (some 0)⟩]) (.seq (.reg [⟨.build 24 [(0, (.k (.int .i64 7)))], .push, none, false, 0, none⟩,
    ⟨.store 24 (.v 0) (.l 0), .none, none, false, 1, none⟩]) .ret)), [.cell (.v 0) 24]⟩
noncomputable def G45 (E : Env) : ZFn := ⟨2, [0], fun cy Y fuel =>
  (zSeq (zReg fun k => (zStep E (cy Y) ⟨.alloc 24, (.var 0), none, false, 0, (some 0)⟩) k)
  (zSeq (zReg fun k => (zStep E (cy Y) ⟨.build 24 [(0, (.k (.int .i64 7)))], .push, none, false, 0, none⟩) ((zStep E (cy Y) ⟨.store 24 (.v 0) (.l 0), .none, none, false, 1, none⟩) k))
  zRet)), [.cell (.v 0) 24]⟩
theorem G45_ok (fn : Nat → Option Func) (pu : Nat → Bool) (pr : Nat → List AV → Option (Heap → Option (Eff × Acc))) : ZOk ⟨Tryz.tyT, fn, pu, pr⟩ npT F45 (G45 ⟨Tryz.tyT, fn, pu, pr⟩) := ⟨rfl, rfl, rfl, fun cy Y k => by kernel_rfl⟩
noncomputable def F46 : FFn := ⟨9, [0, 1, 2, 3, 4], (.seq (.reg [⟨.box 24 (.v 0), (.var 2), none, false, 0, (some 0)⟩,
    ⟨.box 30 (.v 1), (.var 3), none, false, 1, (some 1)⟩,
    ⟨.mv (.k (.bool false)), (.var 4), none, true, 2, none⟩]) (.seq (.dreg 2 [0, 1, 0, 7, 15] [⟨.load 24 (.v 2), .push, none, true, 0, none⟩,
    ⟨.call 56 [(.l 0)], .push, none, false, 1, (some 0)⟩,
    ⟨.load 30 (.v 3), .push, none, true, 2, none⟩,
    ⟨.call 83 [(.l 1), (.l 0)], .push, none, false, 3, (some 1)⟩,
    ⟨.mv (.l 0), (.var 4), none, true, 4, none⟩]) .ret)), [.tmp (.v 4)]⟩
noncomputable def G46 (E : Env) : ZFn := ⟨9, [0, 1, 2, 3, 4], fun cy Y fuel =>
  (zSeq (zReg fun k => (zStep E (cy Y) ⟨.box 24 (.v 0), (.var 2), none, false, 0, (some 0)⟩) ((zStep E (cy Y) ⟨.box 30 (.v 1), (.var 3), none, false, 1, (some 1)⟩) ((zDst (.var 4) (vMv (.k (.bool false)))) k)))
  (zSeq (zDreg 2 fun n0 k => (zDstWD [0, 1, 0, 7, 15] 0 .push (wLoad 2 true (.v 2))) ((zCallD (cy Y) [0, 1, 0, 7, 15] 1 56 [(.l 0)] .push) ((zDstWD [0, 1, 0, 7, 15] 2 .push (wLoad 5 true (.v 3))) ((zCallD (cy Y) [0, 1, 0, 7, 15] 3 83 [(.l 1), (.l 0)] .push) ((fun k sp => zDst (.var 4) (vMv (.l 0)) (k sp)) k)))))
  zRet)), [.tmp (.v 4)]⟩
theorem G46_ok (fn : Nat → Option Func) (pu : Nat → Bool) (pr : Nat → List AV → Option (Heap → Option (Eff × Acc))) : ZOk ⟨Tryz.tyT, fn, pu, pr⟩ npT F46 (G46 ⟨Tryz.tyT, fn, pu, pr⟩) := ⟨rfl, rfl, rfl, fun cy Y k => by kernel_rfl⟩
noncomputable def F47 : FFn := ⟨20, [0, 9, 8, 7, 6, 1, 4], (.seq (.reg [⟨.mv (.k (.int .u64 0)), (.var 6), none, true, 0, none⟩]) (.seq (.seq (.reg [⟨.mv (.v 0), (.var 3), none, true, 0, none⟩,
    ⟨.len 58 (.v 3), (.var 2), none, false, 1, none⟩,
    ⟨.mv (.k (.int .i64 0)), (.var 1), none, true, 2, none⟩]) (.block 0 (.loop (.seq (.reg [⟨.bin .lss 3 false false (.v 1) (.v 2), .push, none, false, 0, none⟩]) (.seq (.cond (.l 0) .skip (.exit 0)) (.seq (.block 1 (.seq (.reg [⟨.indexAddr 58 (.v 3) (.v 1), .push, none, true, 0, none⟩,
    ⟨.load 57 (.l 0), .push, none, true, 1, none⟩,
    ⟨.alloc 57, (.var 4), none, false, 2, (some 0)⟩,
    ⟨.store 57 (.v 4) (.l 0), .none, none, false, 3, none⟩]) (.seq (.reg [⟨.fieldAddr 57 (.v 4) 0, .push, none, true, 0, none⟩,
    ⟨.load 3 (.l 0), .push, none, true, 1, none⟩,
    ⟨.bin .eql 3 false false (.l 0) (.v 5), .push, none, false, 3, none⟩]) (.cond (.l 0) (.seq (.reg [⟨.fieldAddr 57 (.v 4) 1, .push, none, true, 0, none⟩,
    ⟨.load 25 (.l 0), .push, none, true, 1, none⟩,
    ⟨.mv (.l 0), (.var 6), none, true, 2, none⟩]) .ret) .skip)))) (.reg [⟨.bin .add 3 false true (.v 1) (.k (.int .i64 1)), .push, none, false, 0, none⟩,
    ⟨.mv (.l 0), (.var 1), none, true, 1, none⟩]))))))) (.seq (.reg [⟨.mv (.k (.int .u64 0)), (.var 6), none, true, 0, none⟩]) .ret))), [.tmp (.v 6)]⟩
noncomputable def G47 (E : Env) : ZFn := ⟨20, [0, 9, 8, 7, 6, 1, 4], fun cy Y fuel =>
  (zSeq (zReg fun k => (zDst (.var 6) (vMv (.k (.int .u64 0)))) k)
  (zSeq (zSeq (zReg fun k => (zDst (.var 3) (vMv (.v 0))) ((zDst (.var 2) (vLenL (.v 3))) ((zDst (.var 1) (vMv (.k (.int .i64 0)))) k)))
  (zBlock 0 (zLoop fuel (zSeq (zReg fun k => (zDst .push (vInt E fLss .lss 3 false false (.v 1) (.v 2))) k)
  (zSeq (zCond (.l 0) zSkip (zExit 0))
  (zSeq (zBlock 1 (zSeq (zReg fun k => (zDst .push (vIndexAddr 2 (.v 3) (.v 1))) ((zDstW .push (wLoad 2 true (.l 0))) ((zStep E (cy Y) ⟨.alloc 57, (.var 4), none, false, 2, (some 0)⟩) ((zStep E (cy Y) ⟨.store 57 (.v 4) (.l 0), .none, none, false, 3, none⟩) k))))
  (zSeq (zReg fun k => (zDst .push (vFieldAddr 0 (.v 4))) ((zDstW .push (wLoad 1 false (.l 0))) ((zDst .push (vInt E fEql .eql 3 false false (.l 0) (.v 5))) k)))
  (zCond (.l 0) (zSeq (zReg fun k => (zDst .push (vFieldAddr 1 (.v 4))) ((zDstW .push (wLoad 1 false (.l 0))) ((zDst (.var 6) (vMv (.l 0))) k)))
  zRet) zSkip))))
  (zReg fun k => (zDst .push (vInt E fAdd .add 3 false true (.v 1) (.k (.int .i64 1)))) ((zDst (.var 1) (vMv (.l 0))) k))))))))
  (zSeq (zReg fun k => (zDst (.var 6) (vMv (.k (.int .u64 0)))) k)
  zRet))), [.tmp (.v 6)]⟩
theorem G47_ok (fn : Nat → Option Func) (pu : Nat → Bool) (pr : Nat → List AV → Option (Heap → Option (Eff × Acc))) : ZOk ⟨Tryz.tyT, fn, pu, pr⟩ npT F47 (G47 ⟨Tryz.tyT, fn, pu, pr⟩) := ⟨rfl, rfl, rfl, fun cy Y k => by kernel_rfl⟩
noncomputable def F48 : FFn := ⟨26, [0, 1, 13, 12, 5, 4], (.seq (.reg [⟨.mv (.k (.bool false)), (.var 5), none, true, 0, none⟩]) (.seq (.seq (.reg [⟨.len 58 (.v 0), .push, none, false, 1, none⟩,
    ⟨.len 58 (.v 1), .push, none, false, 3, none⟩,
    ⟨.bin .neq 3 false false (.l 1) (.l 0), .push, none, false, 4, none⟩]) (.cond (.l 0) (.seq (.reg [⟨.mv (.k (.bool false)), (.var 5), none, true, 0, none⟩]) .ret) .skip)) (.seq (.seq (.reg [⟨.len 58 (.v 0), (.var 3), none, false, 1, none⟩,
    ⟨.mv (.k (.int .i64 0)), (.var 2), none, true, 2, none⟩]) (.block 0 (.loop (.seq (.reg [⟨.bin .lss 3 false false (.v 2) (.v 3), .push, none, false, 0, none⟩]) (.seq (.cond (.l 0) .skip (.exit 0)) (.seq (.block 1 (.seq (.reg [⟨.mv (.v 2), (.var 4), none, true, 1, none⟩]) (.seq (.dreg 0 [0, 0, 3, 7, 0, 0, 48, 112, 255] [⟨.indexAddr 58 (.v 0) (.v 4), .push, none, true, 2, none⟩,
    ⟨.load 57 (.l 0), .push, none, true, 3, none⟩,
    ⟨.indexAddr 58 (.v 1) (.v 4), .push, none, true, 6, none⟩,
    ⟨.load 57 (.l 0), .push, none, true, 7, none⟩,
    ⟨.bin .neq 57 false false (.l 2) (.l 0), .push, none, false, 8, none⟩]) (.cond (.l 0) (.seq (.reg [⟨.mv (.k (.bool false)), (.var 5), none, true, 0, none⟩]) .ret) .skip)))) (.reg [⟨.bin .add 3 false true (.v 2) (.k (.int .i64 1)), .push, none, false, 0, none⟩,
    ⟨.mv (.l 0), (.var 2), none, true, 1, none⟩]))))))) (.seq (.reg [⟨.mv (.k (.bool true)), (.var 5), none, true, 0, none⟩]) .ret)))), [.tmp (.v 5)]⟩
noncomputable def G48 (E : Env) : ZFn := ⟨26, [0, 1, 13, 12, 5, 4], fun cy Y fuel =>
  (zSeq (zReg fun k => (zDst (.var 5) (vMv (.k (.bool false)))) k)
  (zSeq (zSeq (zReg fun k => (zDst .push (vLenL (.v 0))) ((zDst .push (vLenL (.v 1))) ((zDst .push (vInt E fNeq .neq 3 false false (.l 1) (.l 0))) k)))
  (zCond (.l 0) (zSeq (zReg fun k => (zDst (.var 5) (vMv (.k (.bool false)))) k)
  zRet) zSkip))
  (zSeq (zSeq (zReg fun k => (zDst (.var 3) (vLenL (.v 0))) ((zDst (.var 2) (vMv (.k (.int .i64 0)))) k))
  (zBlock 0 (zLoop fuel (zSeq (zReg fun k => (zDst .push (vInt E fLss .lss 3 false false (.v 2) (.v 3))) k)
  (zSeq (zCond (.l 0) zSkip (zExit 0))
  (zSeq (zBlock 1 (zSeq (zReg fun k => (zDst (.var 4) (vMv (.v 2))) k)
  (zSeq (zDreg 0 fun n0 k => (fun k sp => zDst .push (vIndexAddr 2 (.v 0) (.v 4)) (k sp)) ((zDstWD [0, 0, 3, 7, 0, 0, 48, 112, 255] 3 .push (wLoad 2 true (.l 0))) ((fun k sp => zDst .push (vIndexAddr 2 (.v 1) (.v 4)) (k sp)) ((zDstWD [0, 0, 3, 7, 0, 0, 48, 112, 255] 7 .push (wLoad 2 true (.l 0))) ((fun k sp => zDst .push (vInt E fNeq .neq 57 false false (.l 2) (.l 0)) (k sp)) k)))))
  (zCond (.l 0) (zSeq (zReg fun k => (zDst (.var 5) (vMv (.k (.bool false)))) k)
  zRet) zSkip))))
  (zReg fun k => (zDst .push (vInt E fAdd .add 3 false true (.v 2) (.k (.int .i64 1)))) ((zDst (.var 2) (vMv (.l 0))) k))))))))
  (zSeq (zReg fun k => (zDst (.var 5) (vMv (.k (.bool true)))) k)
  zRet)))), [.tmp (.v 5)]⟩
theorem G48_ok (fn : Nat → Option Func) (pu : Nat → Bool) (pr : Nat → List AV → Option (Heap → Option (Eff × Acc))) : ZOk ⟨Tryz.tyT, fn, pu, pr⟩ npT F48 (G48 ⟨Tryz.tyT, fn, pu, pr⟩) := ⟨rfl, rfl, rfl, fun cy Y k => by kernel_rfl⟩
noncomputable def F49 : FFn := ⟨16, [1, 7, 6, 5, 0, 4], (.seq (.reg [⟨.load 50 (.v 0), (.var 3), none, true, 0, none⟩,
    ⟨.len 50 (.v 3), (.var 2), none, false, 1, none⟩,
    ⟨.mv (.k (.int .i64 0)), (.var 1), none, true, 2, none⟩]) (.block 0 (.loop (.seq (.reg [⟨.bin .lss 3 false false (.v 1) (.v 2), .push, none, false, 0, none⟩]) (.seq (.cond (.l 0) .skip (.exit 0)) (.seq (.block 1 (.seq (.reg [⟨.indexAddr 50 (.v 3) (.v 1), .push, none, true, 0, none⟩,
    ⟨.load 55 (.l 0), .push, none, true, 1, none⟩,
    ⟨.alloc 55, (.var 5), none, false, 2, (some 0)⟩,
    ⟨.store 55 (.v 5) (.l 0), .none, none, false, 3, none⟩]) (.seq (.reg [⟨.load 55 (.v 5), .push, none, true, 1, none⟩,
    ⟨.callv (.v 4) [(.l 0)], .push, none, false, 2, (some 0)⟩,
    ⟨.un .not (.l 0), .push, none, false, 3, none⟩]) (.cond (.l 0) .ret .skip)))) (.reg [⟨.bin .add 3 false true (.v 1) (.k (.int .i64 1)), .push, none, false, 0, none⟩,
    ⟨.mv (.l 0), (.var 1), none, true, 1, none⟩]))))))), []⟩
noncomputable def G49 (E : Env) : ZFn := ⟨16, [1, 7, 6, 5, 0, 4], fun cy Y fuel =>
  (zSeq (zReg fun k => (zDstW (.var 3) (wLoad 1 false (.v 0))) ((zDst (.var 2) (vLenL (.v 3))) ((zDst (.var 1) (vMv (.k (.int .i64 0)))) k)))
  (zBlock 0 (zLoop fuel (zSeq (zReg fun k => (zDst .push (vInt E fLss .lss 3 false false (.v 1) (.v 2))) k)
  (zSeq (zCond (.l 0) zSkip (zExit 0))
  (zSeq (zBlock 1 (zSeq (zReg fun k => (zDst .push (vIndexAddr 6 (.v 3) (.v 1))) ((zDstW .push (wLoad 6 true (.l 0))) ((zStep E (cy Y) ⟨.alloc 55, (.var 5), none, false, 2, (some 0)⟩) ((zStep E (cy Y) ⟨.store 55 (.v 5) (.l 0), .none, none, false, 3, none⟩) k))))
  (zSeq (zReg fun k => (zDstW .push (wLoad 6 true (.v 5))) ((zStep E (cy Y) ⟨.callv (.v 4) [(.l 0)], .push, none, false, 2, (some 0)⟩) ((zDst .push (vNot (.l 0))) k)))
  (zCond (.l 0) zRet zSkip))))
  (zReg fun k => (zDst .push (vInt E fAdd .add 3 false true (.v 1) (.k (.int .i64 1)))) ((zDst (.var 1) (vMv (.l 0))) k)))))))), []⟩
theorem G49_ok (fn : Nat → Option Func) (pu : Nat → Bool) (pr : Nat → List AV → Option (Heap → Option (Eff × Acc))) : ZOk ⟨Tryz.tyT, fn, pu, pr⟩ npT F49 (G49 ⟨Tryz.tyT, fn, pu, pr⟩) := ⟨rfl, rfl, rfl, fun cy Y k => by kernel_rfl⟩
end Go.Proofs.PxG1
