/- The functions of the seat, in one breath: part 1. -/
import Derived.Test.YtnpphcbfainkbaaGreatPzG1F0
import Derived.KernelRfl
set_option maxRecDepth 100000
set_option linter.unusedVariables false
set_option linter.unusedSimpArgs false
namespace Go.Proofs.PxG1
open Go Go.Px Go.Proofs
noncomputable def F54 : FFn := ⟨166, [0, 1, 2, 4, 5, 12, 8, 15, 13, 16, 10, 14, 3, 9, 17, 11, 18, 19, 6, 7], (.seq (.reg [⟨.box 24 (.v 0), (.var 12), none, false, 0, (some 0)⟩,
    ⟨.box 30 (.v 1), (.var 3), none, false, 1, (some 1)⟩,
    ⟨.box 30 (.v 2), (.var 4), none, false, 2, (some 2)⟩,
    ⟨.alloc 30, (.var 18), none, false, 3, (some 3)⟩,
    ⟨.mv (.k (.bool false)), (.var 19), none, true, 4, none⟩]) (.seq (.dreg 2 [0, 1, 3, 0, 8, 31, 63] [⟨.fieldAddr 30 (.v 3) 3, .push, none, true, 0, none⟩,
    ⟨.load 27 (.l 0), .push, none, true, 1, none⟩,
    ⟨.append 27 27 (.k (.sl 0 [] true)) (.l 0), .push, none, false, 2, (some 0)⟩,
    ⟨.fieldAddr 30 (.v 4) 3, .push, none, true, 3, none⟩,
    ⟨.load 27 (.l 0), .push, none, true, 4, none⟩,
    ⟨.append 27 27 (.l 2) (.l 0), .push, none, false, 5, (some 1)⟩,
    ⟨.mv (.l 0), (.var 6), none, true, 6, none⟩]) (.seq (.dreg 2 [0, 1, 3, 0, 8, 31, 63] [⟨.fieldAddr 30 (.v 3) 4, .push, none, true, 0, none⟩,
    ⟨.load 28 (.l 0), .push, none, true, 1, none⟩,
    ⟨.append 28 28 (.k (.sl 0 [] true)) (.l 0), .push, none, false, 2, (some 0)⟩,
    ⟨.fieldAddr 30 (.v 4) 4, .push, none, true, 3, none⟩,
    ⟨.load 28 (.l 0), .push, none, true, 4, none⟩,
    ⟨.append 28 28 (.l 2) (.l 0), .push, none, false, 5, (some 1)⟩,
    ⟨.mv (.l 0), (.var 13), none, true, 6, none⟩]) (.seq (.reg [⟨.build 30 [], .push, none, false, 0, none⟩,
    ⟨.alloc 30, (.var 10), none, false, 1, (some 0)⟩,
    ⟨.store 30 (.v 10) (.l 0), .none, none, false, 2, none⟩,
    ⟨.mv (.k (.bool true)), (.var 15), none, true, 3, none⟩]) (.seq (.seq (.reg [⟨.mv (.k (.int .i64 0)), (.var 5), none, true, 0, none⟩]) (.block 0 (.loop (.seq (.seq (.reg [⟨.len 27 (.v 6), .push, none, false, 2, none⟩,
    ⟨.bin .lss 3 false false (.v 5) (.l 0), .push, none, false, 3, none⟩]) (.cond (.l 0) .skip (.exit 0))) (.seq (.block 1 (.seq (.reg [⟨.mv (.k (.bool false)), (.var 8), none, true, 0, none⟩,
    ⟨.mv (.k (.int .i64 (-1))), (.var 11), none, true, 1, none⟩]) (.seq (.seq (.reg [⟨.mv (.k (.int .i64 0)), (.var 7), none, true, 0, none⟩]) (.block 2 (.loop (.seq (.seq (.reg [⟨.len 27 (.v 6), .push, none, false, 2, none⟩,
    ⟨.bin .lss 3 false false (.v 7) (.l 0), .push, none, false, 3, none⟩]) (.cond (.l 0) .skip (.exit 2))) (.seq (.block 3 (.dreg 1 [0, 1, 3, 3, 15, 31, 3, 3, 195, 451, 1023, 2047, 4095, 8191] [⟨.mv (.v 8), .push, none, true, 0, none⟩,
    ⟨.mv (.v 6), .push, (some ((.l 0), false)), true, 2, none⟩,
    ⟨.mv (.v 5), .push, (some ((.l 1), false)), true, 3, none⟩,
    ⟨.indexAddr 27 (.l 1) (.l 0), .push, (some ((.l 2), false)), true, 4, none⟩,
    ⟨.load 58 (.l 0), .push, (some ((.l 3), false)), true, 5, none⟩,
    ⟨.mv (.v 6), .push, (some ((.l 4), false)), true, 6, none⟩,
    ⟨.mv (.v 7), .push, (some ((.l 5), false)), true, 7, none⟩,
    ⟨.indexAddr 27 (.l 1) (.l 0), .push, (some ((.l 6), false)), true, 8, none⟩,
    ⟨.load 58 (.l 0), .push, (some ((.l 7), false)), true, 9, none⟩,
    ⟨.call 88 [(.l 4), (.l 0)], .push, (some ((.l 8), false)), false, 10, (some 0)⟩,
    ⟨.bin .eql 3 false true (.l 0) (.k (.int .i64 (-1))), .push, (some ((.l 9), false)), false, 11, none⟩,
    ⟨.pick (.l 10) (.k (.bool true)) (.l 0), .push, none, true, 12, none⟩,
    ⟨.mv (.l 0), (.var 8), none, true, 13, none⟩])) (.reg [⟨.mv (.v 7), .push, none, true, 0, none⟩,
    ⟨.bin .add 3 false true (.l 0) (.k (.int .i64 1)), .push, none, false, 1, none⟩,
    ⟨.mv (.l 0), (.var 7), none, true, 2, none⟩])))))) (.seq (.seq (.reg [⟨.mv (.k (.int .i64 0)), (.var 9), none, true, 0, none⟩]) (.block 4 (.loop (.seq (.seq (.reg [⟨.fieldAddr 30 (.v 10) 3, .push, none, true, 1, none⟩,
    ⟨.load 27 (.l 0), .push, none, true, 2, none⟩,
    ⟨.len 27 (.l 0), .push, none, false, 3, none⟩,
    ⟨.bin .lss 3 false false (.v 9) (.l 0), .push, none, false, 4, none⟩]) (.cond (.l 0) .skip (.exit 4))) (.seq (.block 5 (.seq (.dreg 1 [0, 1, 0, 7, 15, 0, 0, 96, 224, 511] [⟨.fieldAddr 30 (.v 10) 3, .push, none, true, 0, none⟩,
    ⟨.load 27 (.l 0), .push, none, true, 1, none⟩,
    ⟨.indexAddr 27 (.l 0) (.v 9), .push, none, true, 3, none⟩,
    ⟨.load 58 (.l 0), .push, none, true, 4, none⟩,
    ⟨.indexAddr 27 (.v 6) (.v 5), .push, none, true, 7, none⟩,
    ⟨.load 58 (.l 0), .push, none, true, 8, none⟩,
    ⟨.call 31 [(.l 2), (.l 0)], .push, none, false, 9, (some 0)⟩]) (.cond (.l 0) (.reg [⟨.mv (.v 9), (.var 11), none, true, 1, none⟩]) .skip))) (.reg [⟨.mv (.v 9), .push, none, true, 0, none⟩,
    ⟨.bin .add 3 false true (.l 0) (.k (.int .i64 1)), .push, none, false, 1, none⟩,
    ⟨.mv (.l 0), (.var 9), none, true, 2, none⟩])))))) (.seq (.seq (.reg []) (.cond (.v 8) (.exit 1) .skip)) (.seq (.seq (.reg [⟨.bin .geq 3 false true (.v 11) (.k (.int .i64 0)), .push, none, false, 1, none⟩]) (.cond (.l 0) (.seq (.dreg 2 [0, 1, 3, 7, 0, 16, 0, 112, 240, 0, 0, 1536, 3584, 8191, 16383, 32767, 32767, 0, 196607, 524287] [⟨.fieldAddr 24 (.v 12) 1, .push, none, true, 0, none⟩,
    ⟨.load 22 (.l 0), .push, none, true, 1, none⟩,
    ⟨.indexAddr 22 (.l 0) (.k (.int .i64 0)), .push, none, true, 2, none⟩,
    ⟨.load 24 (.l 0), .push, none, true, 3, none⟩,
    ⟨.fieldAddr 30 (.v 10) 4, .push, none, true, 4, none⟩,
    ⟨.load 28 (.l 0), .push, none, true, 5, none⟩,
    ⟨.indexAddr 28 (.l 0) (.v 11), .push, none, true, 7, none⟩,
    ⟨.load 30 (.l 0), .push, none, true, 8, none⟩,
    ⟨.indexAddr 28 (.v 13) (.v 5), .push, none, true, 11, none⟩,
    ⟨.load 30 (.l 0), .push, none, true, 12, none⟩,
    ⟨.call 27 [(.l 6), (.l 2), (.l 0)], .push, none, false, 13, (some 0)⟩,
    ⟨.extract (.l 0) 0, .push, none, true, 15, none⟩,
    ⟨.extract (.l 1) 1, .push, none, true, 16, none⟩,
    ⟨.alloc 30, (.var 14), none, false, 17, (some 1)⟩,
    ⟨.store 30 (.v 14) (.l 1), .none, none, false, 18, none⟩,
    ⟨.mv (.l 0), (.var 16), none, true, 19, none⟩]) (.seq (.reg [⟨.fieldAddr 30 (.v 10) 4, .push, none, true, 0, none⟩,
    ⟨.load 28 (.l 0), .push, none, true, 1, none⟩,
    ⟨.load 30 (.v 14), .push, none, true, 3, none⟩,
    ⟨.mv (.v 15), .push, none, true, 4, none⟩,
    ⟨.mv (.v 16), .push, (some ((.l 0), true)), true, 6, none⟩,
    ⟨.pick (.l 1) (.l 0) (.k (.bool false)), .push, none, true, 7, none⟩,
    ⟨.indexAddr 28 (.l 4) (.v 11), .push, none, true, 8, none⟩,
    ⟨.store 30 (.l 0) (.l 4), .none, none, false, 9, none⟩,
    ⟨.mv (.l 1), (.var 15), none, true, 10, none⟩]) (.exit 1))) .skip)) (.seq (.reg [⟨.mv (.k (.int .i64 0)), (.var 17), none, true, 0, none⟩]) (.seq (.block 6 (.loop (.seq (.seq (.dreg 1 [0, 0, 2, 6, 15, 31, 63, 127, 63, 511, 1023, 63, 63, 6207, 14399, 32767, 65535] [⟨.fieldAddr 30 (.v 10) 3, .push, none, true, 1, none⟩,
    ⟨.load 27 (.l 0), .push, none, true, 2, none⟩,
    ⟨.len 27 (.l 0), .push, none, false, 3, none⟩,
    ⟨.bin .lss 3 false false (.v 17) (.l 0), .push, none, false, 4, none⟩,
    ⟨.fieldAddr 30 (.v 10) 3, .push, (some ((.l 0), true)), true, 6, none⟩,
    ⟨.load 27 (.l 0), .push, (some ((.l 1), true)), true, 7, none⟩,
    ⟨.mv (.v 17), .push, (some ((.l 2), true)), true, 8, none⟩,
    ⟨.indexAddr 27 (.l 1) (.l 0), .push, (some ((.l 3), true)), true, 9, none⟩,
    ⟨.load 58 (.l 0), .push, (some ((.l 4), true)), true, 10, none⟩,
    ⟨.mv (.v 6), .push, (some ((.l 5), true)), true, 11, none⟩,
    ⟨.mv (.v 5), .push, (some ((.l 6), true)), true, 12, none⟩,
    ⟨.indexAddr 27 (.l 1) (.l 0), .push, (some ((.l 7), true)), true, 13, none⟩,
    ⟨.load 58 (.l 0), .push, (some ((.l 8), true)), true, 14, none⟩,
    ⟨.call 89 [(.l 4), (.l 0)], .push, (some ((.l 9), true)), false, 15, (some 0)⟩,
    ⟨.pick (.l 10) (.l 0) (.k (.bool false)), .push, none, true, 16, none⟩]) (.cond (.l 0) .skip (.exit 6))) (.block 7 (.reg [⟨.mv (.v 17), .push, none, true, 0, none⟩,
    ⟨.bin .add 3 false true (.l 0) (.k (.int .i64 1)), .push, none, false, 1, none⟩,
    ⟨.mv (.l 0), (.var 17), none, true, 2, none⟩]))))) (.seq (.dreg 4 [0, 1, 0, 7, 15, 0, 0, 96, 224, 480, 1023, 0, 2048, 0, 14336, 32767, 65535, 131071] [⟨.fieldAddr 30 (.v 10) 3, .push, none, true, 0, none⟩,
    ⟨.load 27 (.l 0), .push, none, true, 1, none⟩,
    ⟨.slice 27 (.l 0) none (some (.v 17)) none, .push, none, false, 3, none⟩,
    ⟨.append 27 27 (.k (.sl 0 [] true)) (.l 0), .push, none, false, 4, (some 0)⟩,
    ⟨.indexAddr 27 (.v 6) (.v 5), .push, none, true, 7, none⟩,
    ⟨.load 58 (.l 0), .push, none, true, 8, none⟩,
    ⟨.buildSlice 27 1 [(0, (.l 0))], .push, none, false, 9, (some 1)⟩,
    ⟨.append 27 27 (.l 3) (.l 0), .push, none, false, 10, (some 2)⟩,
    ⟨.fieldAddr 30 (.v 10) 3, .push, none, true, 11, none⟩,
    ⟨.load 27 (.l 0), .push, none, true, 12, none⟩,
    ⟨.slice 27 (.l 0) (some (.v 17)) none none, .push, none, false, 14, none⟩,
    ⟨.append 27 27 (.l 3) (.l 0), .push, none, false, 15, (some 3)⟩,
    ⟨.fieldAddr 30 (.v 10) 3, .push, none, true, 16, none⟩,
    ⟨.store 27 (.l 0) (.l 1), .none, none, false, 17, none⟩]) (.dreg 4 [0, 1, 0, 7, 15, 0, 0, 96, 224, 480, 1023, 0, 2048, 0, 14336, 32767, 65535, 131071] [⟨.fieldAddr 30 (.v 10) 4, .push, none, true, 0, none⟩,
    ⟨.load 28 (.l 0), .push, none, true, 1, none⟩,
    ⟨.slice 28 (.l 0) none (some (.v 17)) none, .push, none, false, 3, none⟩,
    ⟨.append 28 28 (.k (.sl 0 [] true)) (.l 0), .push, none, false, 4, (some 0)⟩,
    ⟨.indexAddr 28 (.v 13) (.v 5), .push, none, true, 7, none⟩,
    ⟨.load 30 (.l 0), .push, none, true, 8, none⟩,
    ⟨.buildSlice 28 1 [(0, (.l 0))], .push, none, false, 9, (some 1)⟩,
    ⟨.append 28 28 (.l 3) (.l 0), .push, none, false, 10, (some 2)⟩,
    ⟨.fieldAddr 30 (.v 10) 4, .push, none, true, 11, none⟩,
    ⟨.load 28 (.l 0), .push, none, true, 12, none⟩,
    ⟨.slice 28 (.l 0) (some (.v 17)) none none, .push, none, false, 14, none⟩,
    ⟨.append 28 28 (.l 3) (.l 0), .push, none, false, 15, (some 3)⟩,
    ⟨.fieldAddr 30 (.v 10) 4, .push, none, true, 16, none⟩,
    ⟨.store 28 (.l 0) (.l 1), .none, none, false, 17, none⟩])))))))))) (.reg [⟨.mv (.v 5), .push, none, true, 0, none⟩,
    ⟨.bin .add 3 false true (.l 0) (.k (.int .i64 1)), .push, none, false, 1, none⟩,
    ⟨.mv (.l 0), (.var 5), none, true, 2, none⟩])))))) (.seq (.dreg 0 [0, 0, 2, 6, 14, 30, 62, 126, 7, 511] [⟨.load 30 (.v 10), .push, none, true, 0, none⟩,
    ⟨.fieldAddr 30 (.v 10) 3, .push, (some ((.v 15), true)), true, 3, none⟩,
    ⟨.load 27 (.l 0), .push, (some ((.v 15), true)), true, 4, none⟩,
    ⟨.len 27 (.l 0), .push, (some ((.v 15), true)), false, 5, none⟩,
    ⟨.bin .leq 3 false true (.l 0) (.k (.int .i64 40)), .push, (some ((.v 15), true)), false, 6, none⟩,
    ⟨.pick (.v 15) (.l 0) (.k (.bool false)), .push, none, true, 7, none⟩,
    ⟨.store 30 (.v 18) (.l 5), .none, none, false, 8, none⟩,
    ⟨.mv (.l 0), (.var 19), none, true, 9, none⟩]) .ret)))))), [.cell (.v 18) 30, .tmp (.v 19)]⟩
noncomputable def G54 (E : Env) : ZFn := ⟨166, [0, 1, 2, 4, 5, 12, 8, 15, 13, 16, 10, 14, 3, 9, 17, 11, 18, 19, 6, 7], fun cy Y fuel =>
  (zSeq (zReg fun k => (zStep E (cy Y) ⟨.box 24 (.v 0), (.var 12), none, false, 0, (some 0)⟩) ((zStep E (cy Y) ⟨.box 30 (.v 1), (.var 3), none, false, 1, (some 1)⟩) ((zStep E (cy Y) ⟨.box 30 (.v 2), (.var 4), none, false, 2, (some 2)⟩) ((zStep E (cy Y) ⟨.alloc 30, (.var 18), none, false, 3, (some 3)⟩) ((zDst (.var 19) (vMv (.k (.bool false)))) k)))))
  (zSeq (zDreg 2 fun n0 k => (fun k sp => zDst .push (vFieldAddr 3 (.v 3)) (k sp)) ((zDstWD [0, 1, 3, 0, 8, 31, 63] 1 .push (wLoad 1 false (.l 0))) ((zStepD E (cy Y) [0, 1, 3, 0, 8, 31, 63] n0 ⟨.append 27 27 (.k (.sl 0 [] true)) (.l 0), .push, none, false, 2, (some 0)⟩) ((fun k sp => zDst .push (vFieldAddr 3 (.v 4)) (k sp)) ((zDstWD [0, 1, 3, 0, 8, 31, 63] 4 .push (wLoad 1 false (.l 0))) ((zStepD E (cy Y) [0, 1, 3, 0, 8, 31, 63] n0 ⟨.append 27 27 (.l 2) (.l 0), .push, none, false, 5, (some 1)⟩) ((fun k sp => zDst (.var 6) (vMv (.l 0)) (k sp)) k)))))))
  (zSeq (zDreg 2 fun n0 k => (fun k sp => zDst .push (vFieldAddr 4 (.v 3)) (k sp)) ((zDstWD [0, 1, 3, 0, 8, 31, 63] 1 .push (wLoad 1 false (.l 0))) ((zStepD E (cy Y) [0, 1, 3, 0, 8, 31, 63] n0 ⟨.append 28 28 (.k (.sl 0 [] true)) (.l 0), .push, none, false, 2, (some 0)⟩) ((fun k sp => zDst .push (vFieldAddr 4 (.v 4)) (k sp)) ((zDstWD [0, 1, 3, 0, 8, 31, 63] 4 .push (wLoad 1 false (.l 0))) ((zStepD E (cy Y) [0, 1, 3, 0, 8, 31, 63] n0 ⟨.append 28 28 (.l 2) (.l 0), .push, none, false, 5, (some 1)⟩) ((fun k sp => zDst (.var 13) (vMv (.l 0)) (k sp)) k)))))))
  (zSeq (zReg fun k => (zStep E (cy Y) ⟨.build 30 [], .push, none, false, 0, none⟩) ((zStep E (cy Y) ⟨.alloc 30, (.var 10), none, false, 1, (some 0)⟩) ((zStep E (cy Y) ⟨.store 30 (.v 10) (.l 0), .none, none, false, 2, none⟩) ((zDst (.var 15) (vMv (.k (.bool true)))) k))))
  (zSeq (zSeq (zReg fun k => (zDst (.var 5) (vMv (.k (.int .i64 0)))) k)
  (zBlock 0 (zLoop fuel (zSeq (zSeq (zReg fun k => (zDst .push (vLenL (.v 6))) ((zDst .push (vInt E fLss .lss 3 false false (.v 5) (.l 0))) k))
  (zCond (.l 0) zSkip (zExit 0)))
  (zSeq (zBlock 1 (zSeq (zReg fun k => (zDst (.var 8) (vMv (.k (.bool false)))) ((zDst (.var 11) (vMv (.k (.int .i64 (-1))))) k))
  (zSeq (zSeq (zReg fun k => (zDst (.var 7) (vMv (.k (.int .i64 0)))) k)
  (zBlock 2 (zLoop fuel (zSeq (zSeq (zReg fun k => (zDst .push (vLenL (.v 6))) ((zDst .push (vInt E fLss .lss 3 false false (.v 7) (.l 0))) k))
  (zCond (.l 0) zSkip (zExit 2)))
  (zSeq (zBlock 3 (zDreg 1 fun n0 k => (fun k sp => zDst .push (vMv (.v 8)) (k sp)) ((zGD (.l 0) false .push (fun k sp => zDst .push (vMv (.v 6)) (k sp))) ((zGD (.l 1) false .push (fun k sp => zDst .push (vMv (.v 5)) (k sp))) ((zGD (.l 2) false .push (fun k sp => zDst .push (vIndexAddr 1 (.l 1) (.l 0)) (k sp))) ((zGD (.l 3) false .push (zDstWD [0, 1, 3, 3, 15, 31, 3, 3, 195, 451, 1023, 2047, 4095, 8191] 5 .push (wLoad 1 false (.l 0)))) ((zGD (.l 4) false .push (fun k sp => zDst .push (vMv (.v 6)) (k sp))) ((zGD (.l 5) false .push (fun k sp => zDst .push (vMv (.v 7)) (k sp))) ((zGD (.l 6) false .push (fun k sp => zDst .push (vIndexAddr 1 (.l 1) (.l 0)) (k sp))) ((zGD (.l 7) false .push (zDstWD [0, 1, 3, 3, 15, 31, 3, 3, 195, 451, 1023, 2047, 4095, 8191] 9 .push (wLoad 1 false (.l 0)))) ((zGD (.l 8) false .push (zCallD (cy Y) [0, 1, 3, 3, 15, 31, 3, 3, 195, 451, 1023, 2047, 4095, 8191] 10 88 [(.l 4), (.l 0)] .push)) ((zGD (.l 9) false .push (fun k sp => zDst .push (vInt E fEql .eql 3 false true (.l 0) (.k (.int .i64 (-1)))) (k sp))) ((fun k sp => zDst .push (vPick (.l 10) (.k (.bool true)) (.l 0)) (k sp)) ((fun k sp => zDst (.var 8) (vMv (.l 0)) (k sp)) k))))))))))))))
  (zReg fun k => (zDst .push (vMv (.v 7))) ((zDst .push (vInt E fAdd .add 3 false true (.l 0) (.k (.int .i64 1)))) ((zDst (.var 7) (vMv (.l 0))) k))))))))
  (zSeq (zSeq (zReg fun k => (zDst (.var 9) (vMv (.k (.int .i64 0)))) k)
  (zBlock 4 (zLoop fuel (zSeq (zSeq (zReg fun k => (zDst .push (vFieldAddr 3 (.v 10))) ((zDstW .push (wLoad 1 false (.l 0))) ((zDst .push (vLenL (.l 0))) ((zDst .push (vInt E fLss .lss 3 false false (.v 9) (.l 0))) k))))
  (zCond (.l 0) zSkip (zExit 4)))
  (zSeq (zBlock 5 (zSeq (zDreg 1 fun n0 k => (fun k sp => zDst .push (vFieldAddr 3 (.v 10)) (k sp)) ((zDstWD [0, 1, 0, 7, 15, 0, 0, 96, 224, 511] 1 .push (wLoad 1 false (.l 0))) ((fun k sp => zDst .push (vIndexAddr 1 (.l 0) (.v 9)) (k sp)) ((zDstWD [0, 1, 0, 7, 15, 0, 0, 96, 224, 511] 4 .push (wLoad 1 false (.l 0))) ((fun k sp => zDst .push (vIndexAddr 1 (.v 6) (.v 5)) (k sp)) ((zDstWD [0, 1, 0, 7, 15, 0, 0, 96, 224, 511] 8 .push (wLoad 1 false (.l 0))) ((zCallD (cy Y) [0, 1, 0, 7, 15, 0, 0, 96, 224, 511] 9 31 [(.l 2), (.l 0)] .push) k)))))))
  (zCond (.l 0) (zReg fun k => (zDst (.var 11) (vMv (.v 9))) k) zSkip)))
  (zReg fun k => (zDst .push (vMv (.v 9))) ((zDst .push (vInt E fAdd .add 3 false true (.l 0) (.k (.int .i64 1)))) ((zDst (.var 9) (vMv (.l 0))) k))))))))
  (zSeq (zSeq (zReg fun k => k)
  (zCond (.v 8) (zExit 1) zSkip))
  (zSeq (zSeq (zReg fun k => (zDst .push (vInt E (fGen .geq) .geq 3 false true (.v 11) (.k (.int .i64 0)))) k)
  (zCond (.l 0) (zSeq (zDreg 2 fun n0 k => (fun k sp => zDst .push (vFieldAddr 1 (.v 12)) (k sp)) ((zDstWD [0, 1, 3, 7, 0, 16, 0, 112, 240, 0, 0, 1536, 3584, 8191, 16383, 32767, 32767, 0, 196607, 524287] 1 .push (wLoad 1 false (.l 0))) ((fun k sp => zDst .push (vIndexAddr 2 (.l 0) (.k (.int .i64 0))) (k sp)) ((zDstWD [0, 1, 3, 7, 0, 16, 0, 112, 240, 0, 0, 1536, 3584, 8191, 16383, 32767, 32767, 0, 196607, 524287] 3 .push (wLoad 2 true (.l 0))) ((fun k sp => zDst .push (vFieldAddr 4 (.v 10)) (k sp)) ((zDstWD [0, 1, 3, 7, 0, 16, 0, 112, 240, 0, 0, 1536, 3584, 8191, 16383, 32767, 32767, 0, 196607, 524287] 5 .push (wLoad 1 false (.l 0))) ((fun k sp => zDst .push (vIndexAddr 5 (.l 0) (.v 11)) (k sp)) ((zDstWD [0, 1, 3, 7, 0, 16, 0, 112, 240, 0, 0, 1536, 3584, 8191, 16383, 32767, 32767, 0, 196607, 524287] 8 .push (wLoad 5 true (.l 0))) ((fun k sp => zDst .push (vIndexAddr 5 (.v 13) (.v 5)) (k sp)) ((zDstWD [0, 1, 3, 7, 0, 16, 0, 112, 240, 0, 0, 1536, 3584, 8191, 16383, 32767, 32767, 0, 196607, 524287] 12 .push (wLoad 5 true (.l 0))) ((zCallD (cy Y) [0, 1, 3, 7, 0, 16, 0, 112, 240, 0, 0, 1536, 3584, 8191, 16383, 32767, 32767, 0, 196607, 524287] 13 27 [(.l 6), (.l 2), (.l 0)] .push) ((fun k sp => zDst .push (vExtract 0 (.l 0)) (k sp)) ((fun k sp => zDst .push (vExtract 1 (.l 1)) (k sp)) ((zStepD E (cy Y) [0, 1, 3, 7, 0, 16, 0, 112, 240, 0, 0, 1536, 3584, 8191, 16383, 32767, 32767, 0, 196607, 524287] n0 ⟨.alloc 30, (.var 14), none, false, 17, (some 1)⟩) ((zStepD E (cy Y) [0, 1, 3, 7, 0, 16, 0, 112, 240, 0, 0, 1536, 3584, 8191, 16383, 32767, 32767, 0, 196607, 524287] n0 ⟨.store 30 (.v 14) (.l 1), .none, none, false, 18, none⟩) ((fun k sp => zDst (.var 16) (vMv (.l 0)) (k sp)) k))))))))))))))))
  (zSeq (zReg fun k => (zDst .push (vFieldAddr 4 (.v 10))) ((zDstW .push (wLoad 1 false (.l 0))) ((zDstW .push (wLoad 5 true (.v 14))) ((zDst .push (vMv (.v 15))) ((zG (.l 0) true .push (zDst .push (vMv (.v 16)))) ((zDst .push (vPick (.l 1) (.l 0) (.k (.bool false)))) ((zDst .push (vIndexAddr 5 (.l 4) (.v 11))) ((zStep E (cy Y) ⟨.store 30 (.l 0) (.l 4), .none, none, false, 9, none⟩) ((zDst (.var 15) (vMv (.l 1))) k)))))))))
  (zExit 1))) zSkip))
  (zSeq (zReg fun k => (zDst (.var 17) (vMv (.k (.int .i64 0)))) k)
  (zSeq (zBlock 6 (zLoop fuel (zSeq (zSeq (zDreg 1 fun n0 k => (fun k sp => zDst .push (vFieldAddr 3 (.v 10)) (k sp)) ((zDstWD [0, 0, 2, 6, 15, 31, 63, 127, 63, 511, 1023, 63, 63, 6207, 14399, 32767, 65535] 2 .push (wLoad 1 false (.l 0))) ((fun k sp => zDst .push (vLenL (.l 0)) (k sp)) ((fun k sp => zDst .push (vInt E fLss .lss 3 false false (.v 17) (.l 0)) (k sp)) ((zGD (.l 0) true .push (fun k sp => zDst .push (vFieldAddr 3 (.v 10)) (k sp))) ((zGD (.l 1) true .push (zDstWD [0, 0, 2, 6, 15, 31, 63, 127, 63, 511, 1023, 63, 63, 6207, 14399, 32767, 65535] 7 .push (wLoad 1 false (.l 0)))) ((zGD (.l 2) true .push (fun k sp => zDst .push (vMv (.v 17)) (k sp))) ((zGD (.l 3) true .push (fun k sp => zDst .push (vIndexAddr 1 (.l 1) (.l 0)) (k sp))) ((zGD (.l 4) true .push (zDstWD [0, 0, 2, 6, 15, 31, 63, 127, 63, 511, 1023, 63, 63, 6207, 14399, 32767, 65535] 10 .push (wLoad 1 false (.l 0)))) ((zGD (.l 5) true .push (fun k sp => zDst .push (vMv (.v 6)) (k sp))) ((zGD (.l 6) true .push (fun k sp => zDst .push (vMv (.v 5)) (k sp))) ((zGD (.l 7) true .push (fun k sp => zDst .push (vIndexAddr 1 (.l 1) (.l 0)) (k sp))) ((zGD (.l 8) true .push (zDstWD [0, 0, 2, 6, 15, 31, 63, 127, 63, 511, 1023, 63, 63, 6207, 14399, 32767, 65535] 14 .push (wLoad 1 false (.l 0)))) ((zGD (.l 9) true .push (zCallD (cy Y) [0, 0, 2, 6, 15, 31, 63, 127, 63, 511, 1023, 63, 63, 6207, 14399, 32767, 65535] 15 89 [(.l 4), (.l 0)] .push)) ((fun k sp => zDst .push (vPick (.l 10) (.l 0) (.k (.bool false))) (k sp)) k)))))))))))))))
  (zCond (.l 0) zSkip (zExit 6)))
  (zBlock 7 (zReg fun k => (zDst .push (vMv (.v 17))) ((zDst .push (vInt E fAdd .add 3 false true (.l 0) (.k (.int .i64 1)))) ((zDst (.var 17) (vMv (.l 0))) k)))))))
  (zSeq (zDreg 4 fun n0 k => (fun k sp => zDst .push (vFieldAddr 3 (.v 10)) (k sp)) ((zDstWD [0, 1, 0, 7, 15, 0, 0, 96, 224, 480, 1023, 0, 2048, 0, 14336, 32767, 65535, 131071] 1 .push (wLoad 1 false (.l 0))) ((zStepD E (cy Y) [0, 1, 0, 7, 15, 0, 0, 96, 224, 480, 1023, 0, 2048, 0, 14336, 32767, 65535, 131071] n0 ⟨.slice 27 (.l 0) none (some (.v 17)) none, .push, none, false, 3, none⟩) ((zStepD E (cy Y) [0, 1, 0, 7, 15, 0, 0, 96, 224, 480, 1023, 0, 2048, 0, 14336, 32767, 65535, 131071] n0 ⟨.append 27 27 (.k (.sl 0 [] true)) (.l 0), .push, none, false, 4, (some 0)⟩) ((fun k sp => zDst .push (vIndexAddr 1 (.v 6) (.v 5)) (k sp)) ((zDstWD [0, 1, 0, 7, 15, 0, 0, 96, 224, 480, 1023, 0, 2048, 0, 14336, 32767, 65535, 131071] 8 .push (wLoad 1 false (.l 0))) ((zStepD E (cy Y) [0, 1, 0, 7, 15, 0, 0, 96, 224, 480, 1023, 0, 2048, 0, 14336, 32767, 65535, 131071] n0 ⟨.buildSlice 27 1 [(0, (.l 0))], .push, none, false, 9, (some 1)⟩) ((zStepD E (cy Y) [0, 1, 0, 7, 15, 0, 0, 96, 224, 480, 1023, 0, 2048, 0, 14336, 32767, 65535, 131071] n0 ⟨.append 27 27 (.l 3) (.l 0), .push, none, false, 10, (some 2)⟩) ((fun k sp => zDst .push (vFieldAddr 3 (.v 10)) (k sp)) ((zDstWD [0, 1, 0, 7, 15, 0, 0, 96, 224, 480, 1023, 0, 2048, 0, 14336, 32767, 65535, 131071] 12 .push (wLoad 1 false (.l 0))) ((zStepD E (cy Y) [0, 1, 0, 7, 15, 0, 0, 96, 224, 480, 1023, 0, 2048, 0, 14336, 32767, 65535, 131071] n0 ⟨.slice 27 (.l 0) (some (.v 17)) none none, .push, none, false, 14, none⟩) ((zStepD E (cy Y) [0, 1, 0, 7, 15, 0, 0, 96, 224, 480, 1023, 0, 2048, 0, 14336, 32767, 65535, 131071] n0 ⟨.append 27 27 (.l 3) (.l 0), .push, none, false, 15, (some 3)⟩) ((fun k sp => zDst .push (vFieldAddr 3 (.v 10)) (k sp)) ((zStepD E (cy Y) [0, 1, 0, 7, 15, 0, 0, 96, 224, 480, 1023, 0, 2048, 0, 14336, 32767, 65535, 131071] n0 ⟨.store 27 (.l 0) (.l 1), .none, none, false, 17, none⟩) k))))))))))))))
  (zDreg 4 fun n0 k => (fun k sp => zDst .push (vFieldAddr 4 (.v 10)) (k sp)) ((zDstWD [0, 1, 0, 7, 15, 0, 0, 96, 224, 480, 1023, 0, 2048, 0, 14336, 32767, 65535, 131071] 1 .push (wLoad 1 false (.l 0))) ((zStepD E (cy Y) [0, 1, 0, 7, 15, 0, 0, 96, 224, 480, 1023, 0, 2048, 0, 14336, 32767, 65535, 131071] n0 ⟨.slice 28 (.l 0) none (some (.v 17)) none, .push, none, false, 3, none⟩) ((zStepD E (cy Y) [0, 1, 0, 7, 15, 0, 0, 96, 224, 480, 1023, 0, 2048, 0, 14336, 32767, 65535, 131071] n0 ⟨.append 28 28 (.k (.sl 0 [] true)) (.l 0), .push, none, false, 4, (some 0)⟩) ((fun k sp => zDst .push (vIndexAddr 5 (.v 13) (.v 5)) (k sp)) ((zDstWD [0, 1, 0, 7, 15, 0, 0, 96, 224, 480, 1023, 0, 2048, 0, 14336, 32767, 65535, 131071] 8 .push (wLoad 5 true (.l 0))) ((zStepD E (cy Y) [0, 1, 0, 7, 15, 0, 0, 96, 224, 480, 1023, 0, 2048, 0, 14336, 32767, 65535, 131071] n0 ⟨.buildSlice 28 1 [(0, (.l 0))], .push, none, false, 9, (some 1)⟩) ((zStepD E (cy Y) [0, 1, 0, 7, 15, 0, 0, 96, 224, 480, 1023, 0, 2048, 0, 14336, 32767, 65535, 131071] n0 ⟨.append 28 28 (.l 3) (.l 0), .push, none, false, 10, (some 2)⟩) ((fun k sp => zDst .push (vFieldAddr 4 (.v 10)) (k sp)) ((zDstWD [0, 1, 0, 7, 15, 0, 0, 96, 224, 480, 1023, 0, 2048, 0, 14336, 32767, 65535, 131071] 12 .push (wLoad 1 false (.l 0))) ((zStepD E (cy Y) [0, 1, 0, 7, 15, 0, 0, 96, 224, 480, 1023, 0, 2048, 0, 14336, 32767, 65535, 131071] n0 ⟨.slice 28 (.l 0) (some (.v 17)) none none, .push, none, false, 14, none⟩) ((zStepD E (cy Y) [0, 1, 0, 7, 15, 0, 0, 96, 224, 480, 1023, 0, 2048, 0, 14336, 32767, 65535, 131071] n0 ⟨.append 28 28 (.l 3) (.l 0), .push, none, false, 15, (some 3)⟩) ((fun k sp => zDst .push (vFieldAddr 4 (.v 10)) (k sp)) ((zStepD E (cy Y) [0, 1, 0, 7, 15, 0, 0, 96, 224, 480, 1023, 0, 2048, 0, 14336, 32767, 65535, 131071] n0 ⟨.store 28 (.l 0) (.l 1), .none, none, false, 17, none⟩) k)))))))))))))))))))))))
  (zReg fun k => (zDst .push (vMv (.v 5))) ((zDst .push (vInt E fAdd .add 3 false true (.l 0) (.k (.int .i64 1)))) ((zDst (.var 5) (vMv (.l 0))) k))))))))
  (zSeq (zDreg 0 fun n0 k => (zDstWD [0, 0, 2, 6, 14, 30, 62, 126, 7, 511] 0 .push (wLoad 5 true (.v 10))) ((zGD (.v 15) true .push (fun k sp => zDst .push (vFieldAddr 3 (.v 10)) (k sp))) ((zGD (.v 15) true .push (zDstWD [0, 0, 2, 6, 14, 30, 62, 126, 7, 511] 4 .push (wLoad 1 false (.l 0)))) ((zGD (.v 15) true .push (fun k sp => zDst .push (vLenL (.l 0)) (k sp))) ((zGD (.v 15) true .push (fun k sp => zDst .push (vInt E (fGen .leq) .leq 3 false true (.l 0) (.k (.int .i64 40))) (k sp))) ((fun k sp => zDst .push (vPick (.v 15) (.l 0) (.k (.bool false))) (k sp)) ((zStepD E (cy Y) [0, 0, 2, 6, 14, 30, 62, 126, 7, 511] n0 ⟨.store 30 (.v 18) (.l 5), .none, none, false, 8, none⟩) ((fun k sp => zDst (.var 19) (vMv (.l 0)) (k sp)) k))))))))
  zRet)))))), [.cell (.v 18) 30, .tmp (.v 19)]⟩
theorem G54_ok (fn : Nat → Option Func) (pu : Nat → Bool) (pr : Nat → List AV → Option (Heap → Option (Eff × Acc))) : ZOk ⟨Tryz.tyT, fn, pu, pr⟩ npT F54 (G54 ⟨Tryz.tyT, fn, pu, pr⟩) := ⟨rfl, rfl, rfl, fun cy Y k => by kernel_rfl⟩
noncomputable def F55 : FFn := ⟨30, [1, 8, 7, 6, 4, 0], (.seq (.reg [⟨.fieldAddr 30 (.v 0) 4, .push, none, true, 0, none⟩,
    ⟨.load 28 (.l 0), (.var 3), none, true, 1, none⟩,
    ⟨.len 28 (.v 3), (.var 2), none, false, 2, none⟩,
    ⟨.mv (.k (.int .i64 0)), (.var 1), none, true, 3, none⟩]) (.block 0 (.loop (.seq (.reg [⟨.bin .lss 3 false false (.v 1) (.v 2), .push, none, false, 0, none⟩]) (.seq (.cond (.l 0) .skip (.exit 0)) (.seq (.block 1 (.seq (.reg [⟨.indexAddr 28 (.v 3) (.v 1), .push, none, true, 0, none⟩,
    ⟨.load 30 (.l 0), .push, none, true, 1, none⟩,
    ⟨.alloc 30, (.var 4), none, false, 2, (some 0)⟩,
    ⟨.store 30 (.v 4) (.l 0), .none, none, false, 3, none⟩]) (.seq (.dreg 1 [0, 1, 3, 7, 15, 31, 31, 95, 223, 479, 31, 1055, 3103, 7199, 16383, 32767, 65535] [⟨.fieldAddr 30 (.v 4) 4, .push, none, true, 0, none⟩,
    ⟨.load 28 (.l 0), .push, none, true, 1, none⟩,
    ⟨.len 28 (.l 0), .push, none, false, 2, none⟩,
    ⟨.bin .eql 3 false true (.l 0) (.k (.int .i64 2)), .push, none, false, 3, none⟩,
    ⟨.mv (.v 5), .push, (some ((.l 0), true)), true, 5, none⟩,
    ⟨.fieldAddr 30 (.v 4) 4, .push, (some ((.l 1), true)), true, 6, none⟩,
    ⟨.load 28 (.l 0), .push, (some ((.l 2), true)), true, 7, none⟩,
    ⟨.indexAddr 28 (.l 0) (.k (.int .i64 0)), .push, (some ((.l 3), true)), true, 8, none⟩,
    ⟨.load 30 (.l 0), .push, (some ((.l 4), true)), true, 9, none⟩,
    ⟨.fieldAddr 30 (.v 4) 4, .push, (some ((.l 5), true)), true, 10, none⟩,
    ⟨.load 28 (.l 0), .push, (some ((.l 6), true)), true, 11, none⟩,
    ⟨.indexAddr 28 (.l 0) (.k (.int .i64 1)), .push, (some ((.l 7), true)), true, 12, none⟩,
    ⟨.load 30 (.l 0), .push, (some ((.l 8), true)), true, 13, none⟩,
    ⟨.callv (.l 8) [(.l 4), (.l 0)], .push, (some ((.l 9), true)), false, 14, (some 0)⟩,
    ⟨.un .not (.l 0), .push, (some ((.l 10), true)), false, 15, none⟩,
    ⟨.pick (.l 11) (.l 0) (.k (.bool false)), .push, none, true, 16, none⟩]) (.cond (.l 0) .ret .skip)))) (.reg [⟨.bin .add 3 false true (.v 1) (.k (.int .i64 1)), .push, none, false, 0, none⟩,
    ⟨.mv (.l 0), (.var 1), none, true, 1, none⟩]))))))), []⟩
noncomputable def G55 (E : Env) : ZFn := ⟨30, [1, 8, 7, 6, 4, 0], fun cy Y fuel =>
  (zSeq (zReg fun k => (zDst .push (vFieldAddr 4 (.v 0))) ((zDstW (.var 3) (wLoad 1 false (.l 0))) ((zDst (.var 2) (vLenL (.v 3))) ((zDst (.var 1) (vMv (.k (.int .i64 0)))) k))))
  (zBlock 0 (zLoop fuel (zSeq (zReg fun k => (zDst .push (vInt E fLss .lss 3 false false (.v 1) (.v 2))) k)
  (zSeq (zCond (.l 0) zSkip (zExit 0))
  (zSeq (zBlock 1 (zSeq (zReg fun k => (zDst .push (vIndexAddr 5 (.v 3) (.v 1))) ((zDstW .push (wLoad 5 true (.l 0))) ((zStep E (cy Y) ⟨.alloc 30, (.var 4), none, false, 2, (some 0)⟩) ((zStep E (cy Y) ⟨.store 30 (.v 4) (.l 0), .none, none, false, 3, none⟩) k))))
  (zSeq (zDreg 1 fun n0 k => (fun k sp => zDst .push (vFieldAddr 4 (.v 4)) (k sp)) ((zDstWD [0, 1, 3, 7, 15, 31, 31, 95, 223, 479, 31, 1055, 3103, 7199, 16383, 32767, 65535] 1 .push (wLoad 1 false (.l 0))) ((fun k sp => zDst .push (vLenL (.l 0)) (k sp)) ((fun k sp => zDst .push (vInt E fEql .eql 3 false true (.l 0) (.k (.int .i64 2))) (k sp)) ((zGD (.l 0) true .push (fun k sp => zDst .push (vMv (.v 5)) (k sp))) ((zGD (.l 1) true .push (fun k sp => zDst .push (vFieldAddr 4 (.v 4)) (k sp))) ((zGD (.l 2) true .push (zDstWD [0, 1, 3, 7, 15, 31, 31, 95, 223, 479, 31, 1055, 3103, 7199, 16383, 32767, 65535] 7 .push (wLoad 1 false (.l 0)))) ((zGD (.l 3) true .push (fun k sp => zDst .push (vIndexAddr 5 (.l 0) (.k (.int .i64 0))) (k sp))) ((zGD (.l 4) true .push (zDstWD [0, 1, 3, 7, 15, 31, 31, 95, 223, 479, 31, 1055, 3103, 7199, 16383, 32767, 65535] 9 .push (wLoad 5 true (.l 0)))) ((zGD (.l 5) true .push (fun k sp => zDst .push (vFieldAddr 4 (.v 4)) (k sp))) ((zGD (.l 6) true .push (zDstWD [0, 1, 3, 7, 15, 31, 31, 95, 223, 479, 31, 1055, 3103, 7199, 16383, 32767, 65535] 11 .push (wLoad 1 false (.l 0)))) ((zGD (.l 7) true .push (fun k sp => zDst .push (vIndexAddr 5 (.l 0) (.k (.int .i64 1))) (k sp))) ((zGD (.l 8) true .push (zDstWD [0, 1, 3, 7, 15, 31, 31, 95, 223, 479, 31, 1055, 3103, 7199, 16383, 32767, 65535] 13 .push (wLoad 5 true (.l 0)))) ((zGD (.l 9) true .push (zStepD E (cy Y) [0, 1, 3, 7, 15, 31, 31, 95, 223, 479, 31, 1055, 3103, 7199, 16383, 32767, 65535] n0 ⟨.callv (.l 8) [(.l 4), (.l 0)], .push, none, false, 14, (some 0)⟩)) ((zGD (.l 10) true .push (fun k sp => zDst .push (vNot (.l 0)) (k sp))) ((fun k sp => zDst .push (vPick (.l 11) (.l 0) (.k (.bool false))) (k sp)) k))))))))))))))))
  (zCond (.l 0) zRet zSkip))))
  (zReg fun k => (zDst .push (vInt E fAdd .add 3 false true (.v 1) (.k (.int .i64 1)))) ((zDst (.var 1) (vMv (.l 0))) k)))))))), []⟩
theorem G55_ok (fn : Nat → Option Func) (pu : Nat → Bool) (pr : Nat → List AV → Option (Heap → Option (Eff × Acc))) : ZOk ⟨Tryz.tyT, fn, pu, pr⟩ npT F55 (G55 ⟨Tryz.tyT, fn, pu, pr⟩) := ⟨rfl, rfl, rfl, fun cy Y k => by kernel_rfl⟩
noncomputable def F56 : FFn := ⟨9, [0, 1, 2], (.seq (.reg [⟨.box 24 (.v 0), (.var 1), none, false, 0, (some 0)⟩,
    ⟨.alloc 30, (.var 2), none, false, 1, (some 1)⟩]) (.seq (.seq (.reg [⟨.load 24 (.v 1), .push, none, true, 0, none⟩,
    ⟨.call 43 [(.l 0)], .push, none, false, 1, (some 0)⟩,
    ⟨.un .not (.l 0), .push, none, false, 2, none⟩]) (.cond (.l 0) (.seq (.reg [⟨.build 30 [], .push, none, false, 0, none⟩,
    ⟨.store 30 (.v 2) (.l 0), .none, none, false, 1, none⟩]) .ret) .skip)) (.seq (.reg [⟨.load 24 (.v 1), .push, none, true, 0, none⟩,
    ⟨.call 90 [(.l 0)], .push, none, false, 1, (some 0)⟩,
    ⟨.store 30 (.v 2) (.l 0), .none, none, false, 2, none⟩]) .ret))), [.cell (.v 2) 30]⟩
noncomputable def G56 (E : Env) : ZFn := ⟨9, [0, 1, 2], fun cy Y fuel =>
  (zSeq (zReg fun k => (zStep E (cy Y) ⟨.box 24 (.v 0), (.var 1), none, false, 0, (some 0)⟩) ((zStep E (cy Y) ⟨.alloc 30, (.var 2), none, false, 1, (some 1)⟩) k))
  (zSeq (zSeq (zReg fun k => (zDstW .push (wLoad 2 true (.v 1))) ((zCall (cy Y) 43 [(.l 0)] .push) ((zDst .push (vNot (.l 0))) k)))
  (zCond (.l 0) (zSeq (zReg fun k => (zStep E (cy Y) ⟨.build 30 [], .push, none, false, 0, none⟩) ((zStep E (cy Y) ⟨.store 30 (.v 2) (.l 0), .none, none, false, 1, none⟩) k))
  zRet) zSkip))
  (zSeq (zReg fun k => (zDstW .push (wLoad 2 true (.v 1))) ((zCall (cy Y) 90 [(.l 0)] .push) ((zStep E (cy Y) ⟨.store 30 (.v 2) (.l 0), .none, none, false, 2, none⟩) k)))
  zRet))), [.cell (.v 2) 30]⟩
theorem G56_ok (fn : Nat → Option Func) (pu : Nat → Bool) (pr : Nat → List AV → Option (Heap → Option (Eff × Acc))) : ZOk ⟨Tryz.tyT, fn, pu, pr⟩ npT F56 (G56 ⟨Tryz.tyT, fn, pu, pr⟩) := ⟨rfl, rfl, rfl, fun cy Y k => by kernel_rfl⟩
noncomputable def F57 : FFn := ⟨4, [0, 1, 2], (.seq (.reg [⟨.box 28 (.v 0), (.var 1), none, false, 0, (some 0)⟩,
    ⟨.mv (.k .nilFunc), (.var 2), none, true, 1, none⟩]) (.seq (.reg [⟨.mkFunc 91 [(.v 1)], .push, none, false, 0, none⟩,
    ⟨.mv (.l 0), (.var 2), none, true, 1, none⟩]) .ret)), [.tmp (.v 2)]⟩
noncomputable def G57 (E : Env) : ZFn := ⟨4, [0, 1, 2], fun cy Y fuel =>
  (zSeq (zReg fun k => (zStep E (cy Y) ⟨.box 28 (.v 0), (.var 1), none, false, 0, (some 0)⟩) ((zDst (.var 2) (vMv (.k .nilFunc))) k))
  (zSeq (zReg fun k => (zStep E (cy Y) ⟨.mkFunc 91 [(.v 1)], .push, none, false, 0, none⟩) ((zDst (.var 2) (vMv (.l 0))) k))
  zRet)), [.tmp (.v 2)]⟩
theorem G57_ok (fn : Nat → Option Func) (pu : Nat → Bool) (pr : Nat → List AV → Option (Heap → Option (Eff × Acc))) : ZOk ⟨Tryz.tyT, fn, pu, pr⟩ npT F57 (G57 ⟨Tryz.tyT, fn, pu, pr⟩) := ⟨rfl, rfl, rfl, fun cy Y k => by kernel_rfl⟩
noncomputable def F58 : FFn := ⟨26, [0, 1, 2, 3, 4, 5, 6, 7], (.seq (.reg [⟨.box 24 (.v 0), (.var 3), none, false, 0, (some 0)⟩,
    ⟨.box 30 (.v 1), (.var 4), none, false, 1, (some 1)⟩,
    ⟨.box 30 (.v 2), (.var 5), none, false, 2, (some 2)⟩,
    ⟨.alloc 30, (.var 6), none, false, 3, (some 3)⟩,
    ⟨.mv (.k .nilIface), (.var 7), none, true, 4, none⟩]) (.seq (.seq (.reg [⟨.load 24 (.v 3), .push, none, true, 0, none⟩,
    ⟨.load 30 (.v 4), .push, none, true, 1, none⟩,
    ⟨.call 21 [(.l 1), (.l 0)], .push, none, false, 2, (some 0)⟩,
    ⟨.un .not (.l 0), .push, none, false, 3, none⟩,
    ⟨.load 24 (.v 3), .push, (some ((.l 0), false)), true, 5, none⟩,
    ⟨.load 30 (.v 5), .push, (some ((.l 1), false)), true, 6, none⟩,
    ⟨.call 21 [(.l 1), (.l 0)], .push, (some ((.l 2), false)), false, 7, (some 1)⟩,
    ⟨.un .not (.l 0), .push, (some ((.l 3), false)), false, 8, none⟩,
    ⟨.pick (.l 4) (.k (.bool true)) (.l 0), .push, none, true, 9, none⟩]) (.cond (.l 0) (.seq (.reg [⟨.build 30 [], .push, none, false, 0, none⟩,
    ⟨.mkIface 62 (.k (.int .i64 14)), .push, none, false, 1, none⟩,
    ⟨.store 30 (.v 6) (.l 1), .none, none, false, 2, none⟩,
    ⟨.mv (.l 0), (.var 7), none, true, 3, none⟩]) .ret) .skip)) (.seq (.reg [⟨.load 24 (.v 3), .push, none, true, 0, none⟩,
    ⟨.load 30 (.v 4), .push, none, true, 1, none⟩,
    ⟨.load 30 (.v 5), .push, none, true, 2, none⟩,
    ⟨.call 92 [(.l 2), (.l 1), (.l 0)], .push, none, false, 3, (some 0)⟩,
    ⟨.extract (.l 0) 0, .push, none, true, 4, none⟩,
    ⟨.extract (.l 1) 1, .push, none, true, 5, none⟩,
    ⟨.store 30 (.v 6) (.l 1), .none, none, false, 6, none⟩,
    ⟨.mv (.l 0), (.var 7), none, true, 7, none⟩]) .ret))), [.cell (.v 6) 30, .tmp (.v 7)]⟩
noncomputable def G58 (E : Env) : ZFn := ⟨26, [0, 1, 2, 3, 4, 5, 6, 7], fun cy Y fuel =>
  (zSeq (zReg fun k => (zStep E (cy Y) ⟨.box 24 (.v 0), (.var 3), none, false, 0, (some 0)⟩) ((zStep E (cy Y) ⟨.box 30 (.v 1), (.var 4), none, false, 1, (some 1)⟩) ((zStep E (cy Y) ⟨.box 30 (.v 2), (.var 5), none, false, 2, (some 2)⟩) ((zStep E (cy Y) ⟨.alloc 30, (.var 6), none, false, 3, (some 3)⟩) ((zDst (.var 7) (vMv (.k .nilIface))) k)))))
  (zSeq (zSeq (zReg fun k => (zDstW .push (wLoad 2 true (.v 3))) ((zDstW .push (wLoad 5 true (.v 4))) ((zCall (cy Y) 21 [(.l 1), (.l 0)] .push) ((zDst .push (vNot (.l 0))) ((zG (.l 0) false .push (zDstW .push (wLoad 2 true (.v 3)))) ((zG (.l 1) false .push (zDstW .push (wLoad 5 true (.v 5)))) ((zG (.l 2) false .push (zCall (cy Y) 21 [(.l 1), (.l 0)] .push)) ((zG (.l 3) false .push (zDst .push (vNot (.l 0)))) ((zDst .push (vPick (.l 4) (.k (.bool true)) (.l 0))) k)))))))))
  (zCond (.l 0) (zSeq (zReg fun k => (zStep E (cy Y) ⟨.build 30 [], .push, none, false, 0, none⟩) ((zStep E (cy Y) ⟨.mkIface 62 (.k (.int .i64 14)), .push, none, false, 1, none⟩) ((zStep E (cy Y) ⟨.store 30 (.v 6) (.l 1), .none, none, false, 2, none⟩) ((zDst (.var 7) (vMv (.l 0))) k))))
  zRet) zSkip))
  (zSeq (zReg fun k => (zDstW .push (wLoad 2 true (.v 3))) ((zDstW .push (wLoad 5 true (.v 4))) ((zDstW .push (wLoad 5 true (.v 5))) ((zCall (cy Y) 92 [(.l 2), (.l 1), (.l 0)] .push) ((zDst .push (vExtract 0 (.l 0))) ((zDst .push (vExtract 1 (.l 1))) ((zStep E (cy Y) ⟨.store 30 (.v 6) (.l 1), .none, none, false, 6, none⟩) ((zDst (.var 7) (vMv (.l 0))) k))))))))
  zRet))), [.cell (.v 6) 30, .tmp (.v 7)]⟩
theorem G58_ok (fn : Nat → Option Func) (pu : Nat → Bool) (pr : Nat → List AV → Option (Heap → Option (Eff × Acc))) : ZOk ⟨Tryz.tyT, fn, pu, pr⟩ npT F58 (G58 ⟨Tryz.tyT, fn, pu, pr⟩) := ⟨rfl, rfl, rfl, fun cy Y k => by kernel_rfl⟩
noncomputable def F59 : FFn := ⟨33, [0, 1, 2, 5, 4], (.seq (.reg [⟨.box 24 (.v 0), (.var 2), none, false, 0, (some 0)⟩,
    ⟨.mv (.k (.bool false)), (.var 4), none, true, 1, none⟩]) (.seq (.seq (.dreg 1 [0, 1, 3, 7, 15, 31, 7, 71, 199, 511, 1023] [⟨.bin .leq 3 false true (.v 1) (.k (.int .i64 0)), .push, none, false, 1, none⟩,
    ⟨.fieldAddr 24 (.v 2) 1, .push, (some ((.l 0), false)), true, 3, none⟩,
    ⟨.load 22 (.l 0), .push, (some ((.l 1), false)), true, 4, none⟩,
    ⟨.len 22 (.l 0), .push, (some ((.l 2), false)), false, 5, none⟩,
    ⟨.fieldAddr 24 (.v 2) 0, .push, (some ((.l 3), false)), true, 6, none⟩,
    ⟨.load 3 (.l 0), .push, (some ((.l 4), false)), true, 7, none⟩,
    ⟨.call 93 [(.l 0)], .push, (some ((.l 5), false)), false, 8, (some 0)⟩,
    ⟨.bin .neq 3 false false (.l 3) (.l 0), .push, (some ((.l 6), false)), false, 9, none⟩,
    ⟨.pick (.l 7) (.k (.bool true)) (.l 0), .push, none, true, 10, none⟩]) (.cond (.l 0) (.seq (.reg [⟨.mv (.k (.bool false)), (.var 4), none, true, 0, none⟩]) .ret) .skip)) (.seq (.seq (.reg [⟨.mv (.k (.int .i64 0)), (.var 3), none, true, 0, none⟩]) (.block 0 (.loop (.seq (.seq (.reg [⟨.fieldAddr 24 (.v 2) 1, .push, none, true, 1, none⟩,
    ⟨.load 22 (.l 0), .push, none, true, 2, none⟩,
    ⟨.len 22 (.l 0), .push, none, false, 3, none⟩,
    ⟨.bin .lss 3 false false (.v 3) (.l 0), .push, none, false, 4, none⟩]) (.cond (.l 0) .skip (.exit 0))) (.seq (.block 1 (.seq (.reg [⟨.fieldAddr 24 (.v 2) 1, .push, none, true, 0, none⟩,
    ⟨.load 22 (.l 0), .push, none, true, 1, none⟩,
    ⟨.indexAddr 22 (.l 0) (.v 3), .push, none, true, 3, none⟩,
    ⟨.load 24 (.l 0), .push, none, true, 4, none⟩,
    ⟨.bin .sub 3 false true (.v 1) (.k (.int .i64 1)), .push, none, false, 6, none⟩,
    ⟨.call 59 [(.l 1), (.l 0)], .push, none, false, 7, (some 0)⟩,
    ⟨.un .not (.l 0), .push, none, false, 8, none⟩]) (.cond (.l 0) (.seq (.reg [⟨.mv (.k (.bool false)), (.var 4), none, true, 0, none⟩]) .ret) .skip))) (.reg [⟨.mv (.v 3), .push, none, true, 0, none⟩,
    ⟨.bin .add 3 false true (.l 0) (.k (.int .i64 1)), .push, none, false, 1, none⟩,
    ⟨.mv (.l 0), (.var 3), none, true, 2, none⟩])))))) (.seq (.reg [⟨.mv (.k (.bool true)), (.var 4), none, true, 0, none⟩]) .ret)))), [.tmp (.v 4)]⟩
noncomputable def G59 (E : Env) : ZFn := ⟨33, [0, 1, 2, 5, 4], fun cy Y fuel =>
  (zSeq (zReg fun k => (zStep E (cy Y) ⟨.box 24 (.v 0), (.var 2), none, false, 0, (some 0)⟩) ((zDst (.var 4) (vMv (.k (.bool false)))) k))
  (zSeq (zSeq (zDreg 1 fun n0 k => (fun k sp => zDst .push (vInt E (fGen .leq) .leq 3 false true (.v 1) (.k (.int .i64 0))) (k sp)) ((zGD (.l 0) false .push (fun k sp => zDst .push (vFieldAddr 1 (.v 2)) (k sp))) ((zGD (.l 1) false .push (zDstWD [0, 1, 3, 7, 15, 31, 7, 71, 199, 511, 1023] 4 .push (wLoad 1 false (.l 0)))) ((zGD (.l 2) false .push (fun k sp => zDst .push (vLenL (.l 0)) (k sp))) ((zGD (.l 3) false .push (fun k sp => zDst .push (vFieldAddr 0 (.v 2)) (k sp))) ((zGD (.l 4) false .push (zDstWD [0, 1, 3, 7, 15, 31, 7, 71, 199, 511, 1023] 7 .push (wLoad 1 false (.l 0)))) ((zGD (.l 5) false .push (zCallD (cy Y) [0, 1, 3, 7, 15, 31, 7, 71, 199, 511, 1023] 8 93 [(.l 0)] .push)) ((zGD (.l 6) false .push (fun k sp => zDst .push (vInt E fNeq .neq 3 false false (.l 3) (.l 0)) (k sp))) ((fun k sp => zDst .push (vPick (.l 7) (.k (.bool true)) (.l 0)) (k sp)) k)))))))))
  (zCond (.l 0) (zSeq (zReg fun k => (zDst (.var 4) (vMv (.k (.bool false)))) k)
  zRet) zSkip))
  (zSeq (zSeq (zReg fun k => (zDst (.var 3) (vMv (.k (.int .i64 0)))) k)
  (zBlock 0 (zLoop fuel (zSeq (zSeq (zReg fun k => (zDst .push (vFieldAddr 1 (.v 2))) ((zDstW .push (wLoad 1 false (.l 0))) ((zDst .push (vLenL (.l 0))) ((zDst .push (vInt E fLss .lss 3 false false (.v 3) (.l 0))) k))))
  (zCond (.l 0) zSkip (zExit 0)))
  (zSeq (zBlock 1 (zSeq (zReg fun k => (zDst .push (vFieldAddr 1 (.v 2))) ((zDstW .push (wLoad 1 false (.l 0))) ((zDst .push (vIndexAddr 2 (.l 0) (.v 3))) ((zDstW .push (wLoad 2 true (.l 0))) ((zDst .push (vInt E fSub .sub 3 false true (.v 1) (.k (.int .i64 1)))) ((zCall (cy Y) 59 [(.l 1), (.l 0)] .push) ((zDst .push (vNot (.l 0))) k)))))))
  (zCond (.l 0) (zSeq (zReg fun k => (zDst (.var 4) (vMv (.k (.bool false)))) k)
  zRet) zSkip)))
  (zReg fun k => (zDst .push (vMv (.v 3))) ((zDst .push (vInt E fAdd .add 3 false true (.l 0) (.k (.int .i64 1)))) ((zDst (.var 3) (vMv (.l 0))) k))))))))
  (zSeq (zReg fun k => (zDst (.var 4) (vMv (.k (.bool true)))) k)
  zRet)))), [.tmp (.v 4)]⟩
theorem G59_ok (fn : Nat → Option Func) (pu : Nat → Bool) (pr : Nat → List AV → Option (Heap → Option (Eff × Acc))) : ZOk ⟨Tryz.tyT, fn, pu, pr⟩ npT F59 (G59 ⟨Tryz.tyT, fn, pu, pr⟩) := ⟨rfl, rfl, rfl, fun cy Y k => by kernel_rfl⟩
noncomputable def F60 : FFn := ⟨116, [0, 1, 2, 6, 3, 4], (.seq (.reg [⟨.box 24 (.v 0), (.var 2), none, false, 0, (some 0)⟩,
    ⟨.box 30 (.v 1), (.var 4), none, false, 1, (some 1)⟩,
    ⟨.mv (.k (.bool false)), (.var 5), none, true, 2, none⟩]) (.seq (.seq (.reg [⟨.fieldAddr 24 (.v 2) 0, .push, none, true, 0, none⟩,
    ⟨.load 3 (.l 0), (.var 3), none, true, 1, none⟩]) (.block 0 (.seq (.reg [⟨.bin .eql 3 false true (.v 3) (.k (.int .i64 1)), .push, none, false, 0, none⟩,
    ⟨.mv (.l 0), .push, none, true, 1, none⟩]) (.cond (.l 0) (.seq (.reg [⟨.load 30 (.v 4), .push, none, true, 0, none⟩,
    ⟨.call 94 [(.l 0), (.k (.bool true)), (.k (.bool false)), (.k (.bool false)), (.k (.bool false)), (.k (.bool false))], .push, none, false, 1, (some 0)⟩,
    ⟨.mv (.l 0), (.var 5), none, true, 2, none⟩]) .ret) (.seq (.reg [⟨.bin .eql 3 false true (.v 3) (.k (.int .i64 2)), .push, none, false, 0, none⟩,
    ⟨.mv (.l 0), .push, none, true, 1, none⟩]) (.cond (.l 0) (.seq (.reg [⟨.load 30 (.v 4), .push, none, true, 0, none⟩,
    ⟨.call 94 [(.l 0), (.k (.bool true)), (.k (.bool false)), (.k (.bool false)), (.k (.bool false)), (.k (.bool false))], .push, none, false, 1, (some 0)⟩,
    ⟨.fieldAddr 30 (.v 4) 0, .push, (some ((.l 0), true)), true, 3, none⟩,
    ⟨.load 25 (.l 0), .push, (some ((.l 1), true)), true, 4, none⟩,
    ⟨.bin .leq 25 false true (.l 0) (.k (.int .u64 1)), .push, (some ((.l 2), true)), false, 5, none⟩,
    ⟨.pick (.l 3) (.l 0) (.k (.bool false)), .push, none, true, 6, none⟩,
    ⟨.mv (.l 0), (.var 5), none, true, 7, none⟩]) .ret) (.seq (.reg [⟨.bin .eql 3 false true (.v 3) (.k (.int .i64 3)), .push, none, false, 0, none⟩,
    ⟨.mv (.l 0), .push, none, true, 1, none⟩]) (.cond (.l 0) (.seq (.reg [⟨.load 30 (.v 4), .push, none, true, 0, none⟩,
    ⟨.call 94 [(.l 0), (.k (.bool false)), (.k (.bool false)), (.k (.bool true)), (.k (.bool false)), (.k (.bool false))], .push, none, false, 1, (some 0)⟩,
    ⟨.fieldAddr 30 (.v 4) 2, .push, (some ((.l 0), true)), true, 3, none⟩,
    ⟨.load 26 (.l 0), .push, (some ((.l 1), true)), true, 4, none⟩,
    ⟨.call 95 [(.l 0)], .push, (some ((.l 2), true)), false, 5, (some 1)⟩,
    ⟨.pick (.l 3) (.l 0) (.k (.bool false)), .push, none, true, 6, none⟩,
    ⟨.mv (.l 0), (.var 5), none, true, 7, none⟩]) .ret) (.seq (.reg [⟨.bin .eql 3 false true (.v 3) (.k (.int .i64 4)), .push, none, false, 0, none⟩,
    ⟨.mv (.l 0), .push, none, true, 1, none⟩]) (.cond (.l 0) (.seq (.reg [⟨.load 30 (.v 4), .push, none, true, 0, none⟩,
    ⟨.call 94 [(.l 0), (.k (.bool false)), (.k (.bool false)), (.k (.bool true)), (.k (.bool false)), (.k (.bool true))], .push, none, false, 1, (some 0)⟩,
    ⟨.fieldAddr 30 (.v 4) 2, .push, (some ((.l 0), true)), true, 3, none⟩,
    ⟨.load 26 (.l 0), .push, (some ((.l 1), true)), true, 4, none⟩,
    ⟨.call 95 [(.l 0)], .push, (some ((.l 2), true)), false, 5, (some 1)⟩,
    ⟨.pick (.l 3) (.l 0) (.k (.bool false)), .push, none, true, 6, none⟩,
    ⟨.fieldAddr 30 (.v 4) 2, .push, (some ((.l 0), true)), true, 8, none⟩,
    ⟨.load 26 (.l 0), .push, (some ((.l 1), true)), true, 9, none⟩,
    ⟨.len 26 (.l 0), .push, (some ((.l 2), true)), false, 10, none⟩,
    ⟨.fieldAddr 30 (.v 4) 4, .push, (some ((.l 3), true)), true, 11, none⟩,
    ⟨.load 28 (.l 0), .push, (some ((.l 4), true)), true, 12, none⟩,
    ⟨.len 28 (.l 0), .push, (some ((.l 5), true)), false, 13, none⟩,
    ⟨.bin .eql 3 false false (.l 3) (.l 0), .push, (some ((.l 6), true)), false, 14, none⟩,
    ⟨.pick (.l 7) (.l 0) (.k (.bool false)), .push, none, true, 15, none⟩,
    ⟨.mv (.l 0), (.var 5), none, true, 16, none⟩]) .ret) (.seq (.reg [⟨.bin .eql 3 false true (.v 3) (.k (.int .i64 5)), .push, none, false, 0, none⟩,
    ⟨.mv (.l 0), .push, none, true, 1, none⟩]) (.cond (.l 0) (.seq (.reg [⟨.load 30 (.v 4), .push, none, true, 0, none⟩,
    ⟨.call 94 [(.l 0), (.k (.bool false)), (.k (.bool false)), (.k (.bool false)), (.k (.bool false)), (.k (.bool true))], .push, none, false, 1, (some 0)⟩,
    ⟨.fieldAddr 30 (.v 4) 4, .push, (some ((.l 0), true)), true, 3, none⟩,
    ⟨.load 28 (.l 0), .push, (some ((.l 1), true)), true, 4, none⟩,
    ⟨.len 28 (.l 0), .push, (some ((.l 2), true)), false, 5, none⟩,
    ⟨.bin .eql 3 false true (.l 0) (.k (.int .i64 2)), .push, (some ((.l 3), true)), false, 6, none⟩,
    ⟨.pick (.l 4) (.l 0) (.k (.bool false)), .push, none, true, 7, none⟩,
    ⟨.mv (.l 0), (.var 5), none, true, 8, none⟩]) .ret) (.seq (.reg [⟨.bin .eql 3 false true (.v 3) (.k (.int .i64 6)), .push, none, false, 0, none⟩,
    ⟨.mv (.l 0), .push, none, true, 1, none⟩]) (.cond (.l 0) (.seq (.seq (.reg [⟨.fieldAddr 30 (.v 4) 2, .push, none, true, 0, none⟩,
    ⟨.load 26 (.l 0), .push, none, true, 1, none⟩,
    ⟨.len 26 (.l 0), .push, none, false, 2, none⟩,
    ⟨.bin .eql 3 false true (.l 0) (.k (.int .i64 0)), .push, none, false, 3, none⟩]) (.cond (.l 0) (.seq (.reg [⟨.load 30 (.v 4), .push, none, true, 0, none⟩,
    ⟨.call 94 [(.l 0), (.k (.bool false)), (.k (.bool false)), (.k (.bool false)), (.k (.bool false)), (.k (.bool false))], .push, none, false, 1, (some 0)⟩,
    ⟨.mv (.l 0), (.var 5), none, true, 2, none⟩]) .ret) .skip)) (.seq (.reg [⟨.load 30 (.v 4), .push, none, true, 0, none⟩,
    ⟨.call 94 [(.l 0), (.k (.bool true)), (.k (.bool true)), (.k (.bool true)), (.k (.bool false)), (.k (.bool false))], .push, none, false, 1, (some 0)⟩,
    ⟨.fieldAddr 30 (.v 4) 2, .push, (some ((.l 0), true)), true, 3, none⟩,
    ⟨.load 26 (.l 0), .push, (some ((.l 1), true)), true, 4, none⟩,
    ⟨.len 26 (.l 0), .push, (some ((.l 2), true)), false, 5, none⟩,
    ⟨.bin .eql 3 false true (.l 0) (.k (.int .i64 1)), .push, (some ((.l 3), true)), false, 6, none⟩,
    ⟨.pick (.l 4) (.l 0) (.k (.bool false)), .push, none, true, 7, none⟩,
    ⟨.fieldAddr 30 (.v 4) 2, .push, (some ((.l 0), true)), true, 9, none⟩,
    ⟨.load 26 (.l 0), .push, (some ((.l 1), true)), true, 10, none⟩,
    ⟨.call 95 [(.l 0)], .push, (some ((.l 2), true)), false, 11, (some 1)⟩,
    ⟨.pick (.l 3) (.l 0) (.k (.bool false)), .push, none, true, 12, none⟩,
    ⟨.fieldAddr 30 (.v 4) 0, .push, (some ((.l 0), true)), true, 14, none⟩,
    ⟨.load 25 (.l 0), .push, (some ((.l 1), true)), true, 15, none⟩,
    ⟨.bin .neq 25 false true (.l 0) (.k (.int .u64 0)), .push, (some ((.l 2), true)), false, 16, none⟩,
    ⟨.mv (.l 0), .push, (some ((.l 3), true)), true, 17, none⟩,
    ⟨.fieldAddr 30 (.v 4) 1, .push, (some ((.l 0), false)), true, 18, none⟩,
    ⟨.load 25 (.l 0), .push, (some ((.l 1), false)), true, 19, none⟩,
    ⟨.bin .neq 25 false true (.l 0) (.k (.int .u64 0)), .push, (some ((.l 2), false)), false, 20, none⟩,
    ⟨.pick (.l 3) (.k (.bool true)) (.l 0), .push, (some ((.l 7), true)), true, 21, none⟩,
    ⟨.mv (.l 0), .push, (some ((.l 8), true)), true, 22, none⟩,
    ⟨.fieldAddr 30 (.v 4) 2, .push, (some ((.l 0), false)), true, 23, none⟩,
    ⟨.load 26 (.l 0), .push, (some ((.l 1), false)), true, 24, none⟩,
    ⟨.indexAddr 26 (.l 0) (.k (.int .i64 0)), .push, (some ((.l 2), false)), true, 25, none⟩,
    ⟨.load 9 (.l 0), .push, (some ((.l 3), false)), true, 26, none⟩,
    ⟨.bin .neq 9 false true (.l 0) (.k (.str [])), .push, (some ((.l 4), false)), false, 27, none⟩,
    ⟨.pick (.l 5) (.k (.bool true)) (.l 0), .push, (some ((.l 14), true)), true, 28, none⟩,
    ⟨.pick (.l 15) (.l 0) (.k (.bool false)), .push, none, true, 29, none⟩,
    ⟨.mv (.l 0), (.var 5), none, true, 30, none⟩]) .ret)) (.seq (.reg [⟨.bin .eql 3 false true (.v 3) (.k (.int .i64 7)), .push, none, false, 0, none⟩,
    ⟨.mv (.l 0), .push, none, true, 1, none⟩]) (.cond (.l 0) (.seq (.reg [⟨.load 30 (.v 4), .push, none, true, 0, none⟩,
    ⟨.call 94 [(.l 0), (.k (.bool false)), (.k (.bool false)), (.k (.bool false)), (.k (.bool true)), (.k (.bool false))], .push, none, false, 1, (some 0)⟩,
    ⟨.fieldAddr 30 (.v 4) 3, .push, (some ((.l 0), true)), true, 3, none⟩,
    ⟨.load 27 (.l 0), .push, (some ((.l 1), true)), true, 4, none⟩,
    ⟨.len 27 (.l 0), .push, (some ((.l 2), true)), false, 5, none⟩,
    ⟨.bin .leq 3 false true (.l 0) (.k (.int .i64 1)), .push, (some ((.l 3), true)), false, 6, none⟩,
    ⟨.pick (.l 4) (.l 0) (.k (.bool false)), .push, none, true, 7, none⟩,
    ⟨.mv (.l 0), (.var 5), none, true, 8, none⟩]) .ret) .skip)))))))))))))))) (.seq (.reg [⟨.load 30 (.v 4), .push, none, true, 0, none⟩,
    ⟨.call 94 [(.l 0), (.k (.bool false)), (.k (.bool false)), (.k (.bool false)), (.k (.bool true)), (.k (.bool true))], .push, none, false, 1, (some 0)⟩,
    ⟨.fieldAddr 30 (.v 4) 3, .push, (some ((.l 0), true)), true, 3, none⟩,
    ⟨.load 27 (.l 0), .push, (some ((.l 1), true)), true, 4, none⟩,
    ⟨.len 27 (.l 0), .push, (some ((.l 2), true)), false, 5, none⟩,
    ⟨.fieldAddr 30 (.v 4) 4, .push, (some ((.l 3), true)), true, 6, none⟩,
    ⟨.load 28 (.l 0), .push, (some ((.l 4), true)), true, 7, none⟩,
    ⟨.len 28 (.l 0), .push, (some ((.l 5), true)), false, 8, none⟩,
    ⟨.bin .eql 3 false false (.l 3) (.l 0), .push, (some ((.l 6), true)), false, 9, none⟩,
    ⟨.pick (.l 7) (.l 0) (.k (.bool false)), .push, none, true, 10, none⟩,
    ⟨.mv (.l 0), (.var 5), none, true, 11, none⟩]) .ret))), [.tmp (.v 5)]⟩
noncomputable def G60 (E : Env) : ZFn := ⟨116, [0, 1, 2, 6, 3, 4], fun cy Y fuel =>
  (zSeq (zReg fun k => (zStep E (cy Y) ⟨.box 24 (.v 0), (.var 2), none, false, 0, (some 0)⟩) ((zStep E (cy Y) ⟨.box 30 (.v 1), (.var 4), none, false, 1, (some 1)⟩) ((zDst (.var 5) (vMv (.k (.bool false)))) k)))
  (zSeq (zSeq (zReg fun k => (zDst .push (vFieldAddr 0 (.v 2))) ((zDstW (.var 3) (wLoad 1 false (.l 0))) k))
  (zBlock 0 (zSeq (zReg fun k => (zDst .push (vInt E fEql .eql 3 false true (.v 3) (.k (.int .i64 1)))) ((zDst .push (vMv (.l 0))) k))
  (zCond (.l 0) (zSeq (zReg fun k => (zDstW .push (wLoad 5 true (.v 4))) ((zCall (cy Y) 94 [(.l 0), (.k (.bool true)), (.k (.bool false)), (.k (.bool false)), (.k (.bool false)), (.k (.bool false))] .push) ((zDst (.var 5) (vMv (.l 0))) k)))
  zRet) (zSeq (zReg fun k => (zDst .push (vInt E fEql .eql 3 false true (.v 3) (.k (.int .i64 2)))) ((zDst .push (vMv (.l 0))) k))
  (zCond (.l 0) (zSeq (zReg fun k => (zDstW .push (wLoad 5 true (.v 4))) ((zCall (cy Y) 94 [(.l 0), (.k (.bool true)), (.k (.bool false)), (.k (.bool false)), (.k (.bool false)), (.k (.bool false))] .push) ((zG (.l 0) true .push (zDst .push (vFieldAddr 0 (.v 4)))) ((zG (.l 1) true .push (zDstW .push (wLoad 1 false (.l 0)))) ((zG (.l 2) true .push (zDst .push (vInt E (fGen .leq) .leq 25 false true (.l 0) (.k (.int .u64 1))))) ((zDst .push (vPick (.l 3) (.l 0) (.k (.bool false)))) ((zDst (.var 5) (vMv (.l 0))) k)))))))
  zRet) (zSeq (zReg fun k => (zDst .push (vInt E fEql .eql 3 false true (.v 3) (.k (.int .i64 3)))) ((zDst .push (vMv (.l 0))) k))
  (zCond (.l 0) (zSeq (zReg fun k => (zDstW .push (wLoad 5 true (.v 4))) ((zCall (cy Y) 94 [(.l 0), (.k (.bool false)), (.k (.bool false)), (.k (.bool true)), (.k (.bool false)), (.k (.bool false))] .push) ((zG (.l 0) true .push (zDst .push (vFieldAddr 2 (.v 4)))) ((zG (.l 1) true .push (zDstW .push (wLoad 1 false (.l 0)))) ((zG (.l 2) true .push (zCall (cy Y) 95 [(.l 0)] .push)) ((zDst .push (vPick (.l 3) (.l 0) (.k (.bool false)))) ((zDst (.var 5) (vMv (.l 0))) k)))))))
  zRet) (zSeq (zReg fun k => (zDst .push (vInt E fEql .eql 3 false true (.v 3) (.k (.int .i64 4)))) ((zDst .push (vMv (.l 0))) k))
  (zCond (.l 0) (zSeq (zReg fun k => (zDstW .push (wLoad 5 true (.v 4))) ((zCall (cy Y) 94 [(.l 0), (.k (.bool false)), (.k (.bool false)), (.k (.bool true)), (.k (.bool false)), (.k (.bool true))] .push) ((zG (.l 0) true .push (zDst .push (vFieldAddr 2 (.v 4)))) ((zG (.l 1) true .push (zDstW .push (wLoad 1 false (.l 0)))) ((zG (.l 2) true .push (zCall (cy Y) 95 [(.l 0)] .push)) ((zDst .push (vPick (.l 3) (.l 0) (.k (.bool false)))) ((zG (.l 0) true .push (zDst .push (vFieldAddr 2 (.v 4)))) ((zG (.l 1) true .push (zDstW .push (wLoad 1 false (.l 0)))) ((zG (.l 2) true .push (zDst .push (vLenL (.l 0)))) ((zG (.l 3) true .push (zDst .push (vFieldAddr 4 (.v 4)))) ((zG (.l 4) true .push (zDstW .push (wLoad 1 false (.l 0)))) ((zG (.l 5) true .push (zDst .push (vLenL (.l 0)))) ((zG (.l 6) true .push (zDst .push (vInt E fEql .eql 3 false false (.l 3) (.l 0)))) ((zDst .push (vPick (.l 7) (.l 0) (.k (.bool false)))) ((zDst (.var 5) (vMv (.l 0))) k)))))))))))))))
  zRet) (zSeq (zReg fun k => (zDst .push (vInt E fEql .eql 3 false true (.v 3) (.k (.int .i64 5)))) ((zDst .push (vMv (.l 0))) k))
  (zCond (.l 0) (zSeq (zReg fun k => (zDstW .push (wLoad 5 true (.v 4))) ((zCall (cy Y) 94 [(.l 0), (.k (.bool false)), (.k (.bool false)), (.k (.bool false)), (.k (.bool false)), (.k (.bool true))] .push) ((zG (.l 0) true .push (zDst .push (vFieldAddr 4 (.v 4)))) ((zG (.l 1) true .push (zDstW .push (wLoad 1 false (.l 0)))) ((zG (.l 2) true .push (zDst .push (vLenL (.l 0)))) ((zG (.l 3) true .push (zDst .push (vInt E fEql .eql 3 false true (.l 0) (.k (.int .i64 2))))) ((zDst .push (vPick (.l 4) (.l 0) (.k (.bool false)))) ((zDst (.var 5) (vMv (.l 0))) k))))))))
  zRet) (zSeq (zReg fun k => (zDst .push (vInt E fEql .eql 3 false true (.v 3) (.k (.int .i64 6)))) ((zDst .push (vMv (.l 0))) k))
  (zCond (.l 0) (zSeq (zSeq (zReg fun k => (zDst .push (vFieldAddr 2 (.v 4))) ((zDstW .push (wLoad 1 false (.l 0))) ((zDst .push (vLenL (.l 0))) ((zDst .push (vInt E fEql .eql 3 false true (.l 0) (.k (.int .i64 0)))) k))))
  (zCond (.l 0) (zSeq (zReg fun k => (zDstW .push (wLoad 5 true (.v 4))) ((zCall (cy Y) 94 [(.l 0), (.k (.bool false)), (.k (.bool false)), (.k (.bool false)), (.k (.bool false)), (.k (.bool false))] .push) ((zDst (.var 5) (vMv (.l 0))) k)))
  zRet) zSkip))
  (zSeq (zReg fun k => (zDstW .push (wLoad 5 true (.v 4))) ((zCall (cy Y) 94 [(.l 0), (.k (.bool true)), (.k (.bool true)), (.k (.bool true)), (.k (.bool false)), (.k (.bool false))] .push) ((zG (.l 0) true .push (zDst .push (vFieldAddr 2 (.v 4)))) ((zG (.l 1) true .push (zDstW .push (wLoad 1 false (.l 0)))) ((zG (.l 2) true .push (zDst .push (vLenL (.l 0)))) ((zG (.l 3) true .push (zDst .push (vInt E fEql .eql 3 false true (.l 0) (.k (.int .i64 1))))) ((zDst .push (vPick (.l 4) (.l 0) (.k (.bool false)))) ((zG (.l 0) true .push (zDst .push (vFieldAddr 2 (.v 4)))) ((zG (.l 1) true .push (zDstW .push (wLoad 1 false (.l 0)))) ((zG (.l 2) true .push (zCall (cy Y) 95 [(.l 0)] .push)) ((zDst .push (vPick (.l 3) (.l 0) (.k (.bool false)))) ((zG (.l 0) true .push (zDst .push (vFieldAddr 0 (.v 4)))) ((zG (.l 1) true .push (zDstW .push (wLoad 1 false (.l 0)))) ((zG (.l 2) true .push (zDst .push (vInt E fNeq .neq 25 false true (.l 0) (.k (.int .u64 0))))) ((zG (.l 3) true .push (zDst .push (vMv (.l 0)))) ((zG (.l 0) false .push (zDst .push (vFieldAddr 1 (.v 4)))) ((zG (.l 1) false .push (zDstW .push (wLoad 1 false (.l 0)))) ((zG (.l 2) false .push (zDst .push (vInt E fNeq .neq 25 false true (.l 0) (.k (.int .u64 0))))) ((zG (.l 7) true .push (zDst .push (vPick (.l 3) (.k (.bool true)) (.l 0)))) ((zG (.l 8) true .push (zDst .push (vMv (.l 0)))) ((zG (.l 0) false .push (zDst .push (vFieldAddr 2 (.v 4)))) ((zG (.l 1) false .push (zDstW .push (wLoad 1 false (.l 0)))) ((zG (.l 2) false .push (zDst .push (vIndexAddr 1 (.l 0) (.k (.int .i64 0))))) ((zG (.l 3) false .push (zDstW .push (wLoad 1 false (.l 0)))) ((zG (.l 4) false .push (zDst .push (vInt E fNeq .neq 9 false true (.l 0) (.k (.str []))))) ((zG (.l 14) true .push (zDst .push (vPick (.l 5) (.k (.bool true)) (.l 0)))) ((zDst .push (vPick (.l 15) (.l 0) (.k (.bool false)))) ((zDst (.var 5) (vMv (.l 0))) k))))))))))))))))))))))))))))
  zRet)) (zSeq (zReg fun k => (zDst .push (vInt E fEql .eql 3 false true (.v 3) (.k (.int .i64 7)))) ((zDst .push (vMv (.l 0))) k))
  (zCond (.l 0) (zSeq (zReg fun k => (zDstW .push (wLoad 5 true (.v 4))) ((zCall (cy Y) 94 [(.l 0), (.k (.bool false)), (.k (.bool false)), (.k (.bool false)), (.k (.bool true)), (.k (.bool false))] .push) ((zG (.l 0) true .push (zDst .push (vFieldAddr 3 (.v 4)))) ((zG (.l 1) true .push (zDstW .push (wLoad 1 false (.l 0)))) ((zG (.l 2) true .push (zDst .push (vLenL (.l 0)))) ((zG (.l 3) true .push (zDst .push (vInt E (fGen .leq) .leq 3 false true (.l 0) (.k (.int .i64 1))))) ((zDst .push (vPick (.l 4) (.l 0) (.k (.bool false)))) ((zDst (.var 5) (vMv (.l 0))) k))))))))
  zRet) zSkip))))))))))))))))
  (zSeq (zReg fun k => (zDstW .push (wLoad 5 true (.v 4))) ((zCall (cy Y) 94 [(.l 0), (.k (.bool false)), (.k (.bool false)), (.k (.bool false)), (.k (.bool true)), (.k (.bool true))] .push) ((zG (.l 0) true .push (zDst .push (vFieldAddr 3 (.v 4)))) ((zG (.l 1) true .push (zDstW .push (wLoad 1 false (.l 0)))) ((zG (.l 2) true .push (zDst .push (vLenL (.l 0)))) ((zG (.l 3) true .push (zDst .push (vFieldAddr 4 (.v 4)))) ((zG (.l 4) true .push (zDstW .push (wLoad 1 false (.l 0)))) ((zG (.l 5) true .push (zDst .push (vLenL (.l 0)))) ((zG (.l 6) true .push (zDst .push (vInt E fEql .eql 3 false false (.l 3) (.l 0)))) ((zDst .push (vPick (.l 7) (.l 0) (.k (.bool false)))) ((zDst (.var 5) (vMv (.l 0))) k)))))))))))
  zRet))), [.tmp (.v 5)]⟩
theorem G60_ok (fn : Nat → Option Func) (pu : Nat → Bool) (pr : Nat → List AV → Option (Heap → Option (Eff × Acc))) : ZOk ⟨Tryz.tyT, fn, pu, pr⟩ npT F60 (G60 ⟨Tryz.tyT, fn, pu, pr⟩) := ⟨rfl, rfl, rfl, fun cy Y k => by kernel_rfl⟩
noncomputable def F61 : FFn := ⟨20, [3, 0, 2], (.seq (.reg [⟨.mv (.k (.bool false)), (.var 2), none, true, 0, none⟩]) (.seq (.seq (.reg [⟨.mv (.k (.int .i64 1)), (.var 0), none, true, 0, none⟩]) (.block 0 (.loop (.seq (.seq (.reg [⟨.len 26 (.v 1), .push, none, false, 2, none⟩,
    ⟨.bin .lss 3 false false (.v 0) (.l 0), .push, none, false, 3, none⟩]) (.cond (.l 0) .skip (.exit 0))) (.seq (.block 1 (.seq (.dreg 0 [0, 0, 2, 7, 15, 0, 0, 96, 224, 511] [⟨.bin .sub 3 false true (.v 0) (.k (.int .i64 1)), .push, none, false, 2, none⟩,
    ⟨.indexAddr 26 (.v 1) (.l 0), .push, none, true, 3, none⟩,
    ⟨.load 9 (.l 0), .push, none, true, 4, none⟩,
    ⟨.indexAddr 26 (.v 1) (.v 0), .push, none, true, 7, none⟩,
    ⟨.load 9 (.l 0), .push, none, true, 8, none⟩,
    ⟨.bin .geq 9 false false (.l 2) (.l 0), .push, none, false, 9, none⟩]) (.cond (.l 0) (.seq (.reg [⟨.mv (.k (.bool false)), (.var 2), none, true, 0, none⟩]) .ret) .skip))) (.reg [⟨.mv (.v 0), .push, none, true, 0, none⟩,
    ⟨.bin .add 3 false true (.l 0) (.k (.int .i64 1)), .push, none, false, 1, none⟩,
    ⟨.mv (.l 0), (.var 0), none, true, 2, none⟩])))))) (.seq (.reg [⟨.mv (.k (.bool true)), (.var 2), none, true, 0, none⟩]) .ret))), [.tmp (.v 2)]⟩
noncomputable def G61 (E : Env) : ZFn := ⟨20, [3, 0, 2], fun cy Y fuel =>
  (zSeq (zReg fun k => (zDst (.var 2) (vMv (.k (.bool false)))) k)
  (zSeq (zSeq (zReg fun k => (zDst (.var 0) (vMv (.k (.int .i64 1)))) k)
  (zBlock 0 (zLoop fuel (zSeq (zSeq (zReg fun k => (zDst .push (vLenL (.v 1))) ((zDst .push (vInt E fLss .lss 3 false false (.v 0) (.l 0))) k))
  (zCond (.l 0) zSkip (zExit 0)))
  (zSeq (zBlock 1 (zSeq (zDreg 0 fun n0 k => (fun k sp => zDst .push (vInt E fSub .sub 3 false true (.v 0) (.k (.int .i64 1))) (k sp)) ((fun k sp => zDst .push (vIndexAddr 1 (.v 1) (.l 0)) (k sp)) ((zDstWD [0, 0, 2, 7, 15, 0, 0, 96, 224, 511] 4 .push (wLoad 1 false (.l 0))) ((fun k sp => zDst .push (vIndexAddr 1 (.v 1) (.v 0)) (k sp)) ((zDstWD [0, 0, 2, 7, 15, 0, 0, 96, 224, 511] 8 .push (wLoad 1 false (.l 0))) ((fun k sp => zDst .push (vInt E (fGen .geq) .geq 9 false false (.l 2) (.l 0)) (k sp)) k))))))
  (zCond (.l 0) (zSeq (zReg fun k => (zDst (.var 2) (vMv (.k (.bool false)))) k)
  zRet) zSkip)))
  (zReg fun k => (zDst .push (vMv (.v 0))) ((zDst .push (vInt E fAdd .add 3 false true (.l 0) (.k (.int .i64 1)))) ((zDst (.var 0) (vMv (.l 0))) k))))))))
  (zSeq (zReg fun k => (zDst (.var 2) (vMv (.k (.bool true)))) k)
  zRet))), [.tmp (.v 2)]⟩
theorem G61_ok (fn : Nat → Option Func) (pu : Nat → Bool) (pr : Nat → List AV → Option (Heap → Option (Eff × Acc))) : ZOk ⟨Tryz.tyT, fn, pu, pr⟩ npT F61 (G61 ⟨Tryz.tyT, fn, pu, pr⟩) := ⟨rfl, rfl, rfl, fun cy Y k => by kernel_rfl⟩
noncomputable def F62 : FFn := ⟨9, [0, 1, 3, 2, 4], (.seq (.reg [⟨.box 24 (.v 0), (.var 3), none, false, 0, (some 0)⟩,
    ⟨.box 30 (.v 1), (.var 2), none, false, 1, (some 1)⟩,
    ⟨.mv (.k (.bool false)), (.var 4), none, true, 2, none⟩]) (.seq (.dreg 2 [0, 0, 2, 7, 15] [⟨.load 30 (.v 2), .push, none, true, 0, none⟩,
    ⟨.load 24 (.v 3), .push, none, true, 1, none⟩,
    ⟨.call 85 [(.l 0)], .push, none, false, 2, (some 0)⟩,
    ⟨.call 11 [(.l 2), (.l 0)], .push, none, false, 3, (some 1)⟩,
    ⟨.mv (.l 0), (.var 4), none, true, 4, none⟩]) .ret)), [.tmp (.v 4)]⟩
noncomputable def G62 (E : Env) : ZFn := ⟨9, [0, 1, 3, 2, 4], fun cy Y fuel =>
  (zSeq (zReg fun k => (zStep E (cy Y) ⟨.box 24 (.v 0), (.var 3), none, false, 0, (some 0)⟩) ((zStep E (cy Y) ⟨.box 30 (.v 1), (.var 2), none, false, 1, (some 1)⟩) ((zDst (.var 4) (vMv (.k (.bool false)))) k)))
  (zSeq (zDreg 2 fun n0 k => (zDstWD [0, 0, 2, 7, 15] 0 .push (wLoad 5 true (.v 2))) ((zDstWD [0, 0, 2, 7, 15] 1 .push (wLoad 2 true (.v 3))) ((zCallD (cy Y) [0, 0, 2, 7, 15] 2 85 [(.l 0)] .push) ((zCallD (cy Y) [0, 0, 2, 7, 15] 3 11 [(.l 2), (.l 0)] .push) ((fun k sp => zDst (.var 4) (vMv (.l 0)) (k sp)) k)))))
  zRet)), [.tmp (.v 4)]⟩
theorem G62_ok (fn : Nat → Option Func) (pu : Nat → Bool) (pr : Nat → List AV → Option (Heap → Option (Eff × Acc))) : ZOk ⟨Tryz.tyT, fn, pu, pr⟩ npT F62 (G62 ⟨Tryz.tyT, fn, pu, pr⟩) := ⟨rfl, rfl, rfl, fun cy Y k => by kernel_rfl⟩
noncomputable def F63 : FFn := ⟨53, [3, 0, 2], (.seq (.reg [⟨.mv (.k (.bool false)), (.var 2), none, true, 0, none⟩]) (.seq (.seq (.reg [⟨.mv (.k (.int .i64 0)), (.var 0), none, true, 0, none⟩]) (.block 0 (.loop (.seq (.seq (.reg [⟨.len 58 (.v 1), .push, none, false, 2, none⟩,
    ⟨.bin .lss 3 false false (.v 0) (.l 0), .push, none, false, 3, none⟩]) (.cond (.l 0) .skip (.exit 0))) (.seq (.block 1 (.seq (.dreg 0 [0, 0, 3, 7, 15, 31, 63, 127, 127, 511, 1023, 2047, 4095, 8191, 16383, 32767, 32767, 131071, 262143, 524287, 1048575, 2097151, 4194303, 8388607, 16777215, 33554431, 67108863, 67108863, 201326591, 536870911, 1073741823, 2147483647, 67108863, 67108863, 12952010751, 30131879935, 64491618303, 137438953471, 274877906943, 549755813887] [⟨.indexAddr 58 (.v 1) (.v 0), .push, none, true, 2, none⟩,
    ⟨.fieldAddr 57 (.l 0) 0, .push, none, true, 3, none⟩,
    ⟨.load 3 (.l 0), .push, none, true, 4, none⟩,
    ⟨.bin .lss 3 false true (.l 0) (.k (.int .i64 0)), .push, none, false, 5, none⟩,
    ⟨.mv (.v 1), .push, (some ((.l 0), false)), true, 7, none⟩,
    ⟨.mv (.v 0), .push, (some ((.l 1), false)), true, 8, none⟩,
    ⟨.indexAddr 58 (.l 1) (.l 0), .push, (some ((.l 2), false)), true, 9, none⟩,
    ⟨.fieldAddr 57 (.l 0) 0, .push, (some ((.l 3), false)), true, 10, none⟩,
    ⟨.load 3 (.l 0), .push, (some ((.l 4), false)), true, 11, none⟩,
    ⟨.bin .gtr 3 false true (.l 0) (.k (.int .i64 1000000)), .push, (some ((.l 5), false)), false, 12, none⟩,
    ⟨.pick (.l 6) (.k (.bool true)) (.l 0), .push, none, true, 13, none⟩,
    ⟨.mv (.v 1), .push, (some ((.l 0), false)), true, 15, none⟩,
    ⟨.mv (.v 0), .push, (some ((.l 1), false)), true, 16, none⟩,
    ⟨.indexAddr 58 (.l 1) (.l 0), .push, (some ((.l 2), false)), true, 17, none⟩,
    ⟨.fieldAddr 57 (.l 0) 1, .push, (some ((.l 3), false)), true, 18, none⟩,
    ⟨.load 25 (.l 0), .push, (some ((.l 4), false)), true, 19, none⟩,
    ⟨.bin .eql 25 false true (.l 0) (.k (.int .u64 0)), .push, (some ((.l 5), false)), false, 20, none⟩,
    ⟨.pick (.l 6) (.k (.bool true)) (.l 0), .push, none, true, 21, none⟩,
    ⟨.mv (.v 0), .push, (some ((.l 0), false)), true, 23, none⟩,
    ⟨.bin .gtr 3 false true (.l 0) (.k (.int .i64 0)), .push, (some ((.l 1), false)), false, 24, none⟩,
    ⟨.mv (.l 0), .push, (some ((.l 2), false)), true, 25, none⟩,
    ⟨.mv (.v 1), .push, (some ((.l 0), true)), true, 26, none⟩,
    ⟨.mv (.v 0), .push, (some ((.l 1), true)), true, 27, none⟩,
    ⟨.bin .sub 3 false true (.l 0) (.k (.int .i64 1)), .push, (some ((.l 2), true)), false, 28, none⟩,
    ⟨.indexAddr 58 (.l 2) (.l 0), .push, (some ((.l 3), true)), true, 29, none⟩,
    ⟨.fieldAddr 57 (.l 0) 0, .push, (some ((.l 4), true)), true, 30, none⟩,
    ⟨.load 3 (.l 0), .push, (some ((.l 5), true)), true, 31, none⟩,
    ⟨.mv (.v 1), .push, (some ((.l 6), true)), true, 32, none⟩,
    ⟨.mv (.v 0), .push, (some ((.l 7), true)), true, 33, none⟩,
    ⟨.indexAddr 58 (.l 1) (.l 0), .push, (some ((.l 8), true)), true, 34, none⟩,
    ⟨.fieldAddr 57 (.l 0) 0, .push, (some ((.l 9), true)), true, 35, none⟩,
    ⟨.load 3 (.l 0), .push, (some ((.l 10), true)), true, 36, none⟩,
    ⟨.bin .geq 3 false false (.l 5) (.l 0), .push, (some ((.l 11), true)), false, 37, none⟩,
    ⟨.pick (.l 12) (.l 0) (.k (.bool false)), .push, (some ((.l 15), false)), true, 38, none⟩,
    ⟨.pick (.l 16) (.k (.bool true)) (.l 0), .push, none, true, 39, none⟩]) (.cond (.l 0) (.seq (.reg [⟨.mv (.k (.bool false)), (.var 2), none, true, 0, none⟩]) .ret) .skip))) (.reg [⟨.mv (.v 0), .push, none, true, 0, none⟩,
    ⟨.bin .add 3 false true (.l 0) (.k (.int .i64 1)), .push, none, false, 1, none⟩,
    ⟨.mv (.l 0), (.var 0), none, true, 2, none⟩])))))) (.seq (.reg [⟨.len 58 (.v 1), .push, none, false, 1, none⟩,
    ⟨.bin .leq 3 false true (.l 0) (.k (.int .i64 40)), .push, none, false, 2, none⟩,
    ⟨.mv (.l 0), (.var 2), none, true, 3, none⟩]) .ret))), [.tmp (.v 2)]⟩
noncomputable def G63 (E : Env) : ZFn := ⟨53, [3, 0, 2], fun cy Y fuel =>
  (zSeq (zReg fun k => (zDst (.var 2) (vMv (.k (.bool false)))) k)
  (zSeq (zSeq (zReg fun k => (zDst (.var 0) (vMv (.k (.int .i64 0)))) k)
  (zBlock 0 (zLoop fuel (zSeq (zSeq (zReg fun k => (zDst .push (vLenL (.v 1))) ((zDst .push (vInt E fLss .lss 3 false false (.v 0) (.l 0))) k))
  (zCond (.l 0) zSkip (zExit 0)))
  (zSeq (zBlock 1 (zSeq (zDreg 0 fun n0 k => (fun k sp => zDst .push (vIndexAddr 2 (.v 1) (.v 0)) (k sp)) ((fun k sp => zDst .push (vFieldAddr 0 (.l 0)) (k sp)) ((zDstWD [0, 0, 3, 7, 15, 31, 63, 127, 127, 511, 1023, 2047, 4095, 8191, 16383, 32767, 32767, 131071, 262143, 524287, 1048575, 2097151, 4194303, 8388607, 16777215, 33554431, 67108863, 67108863, 201326591, 536870911, 1073741823, 2147483647, 67108863, 67108863, 12952010751, 30131879935, 64491618303, 137438953471, 274877906943, 549755813887] 4 .push (wLoad 1 false (.l 0))) ((fun k sp => zDst .push (vInt E fLss .lss 3 false true (.l 0) (.k (.int .i64 0))) (k sp)) ((zGD (.l 0) false .push (fun k sp => zDst .push (vMv (.v 1)) (k sp))) ((zGD (.l 1) false .push (fun k sp => zDst .push (vMv (.v 0)) (k sp))) ((zGD (.l 2) false .push (fun k sp => zDst .push (vIndexAddr 2 (.l 1) (.l 0)) (k sp))) ((zGD (.l 3) false .push (fun k sp => zDst .push (vFieldAddr 0 (.l 0)) (k sp))) ((zGD (.l 4) false .push (zDstWD [0, 0, 3, 7, 15, 31, 63, 127, 127, 511, 1023, 2047, 4095, 8191, 16383, 32767, 32767, 131071, 262143, 524287, 1048575, 2097151, 4194303, 8388607, 16777215, 33554431, 67108863, 67108863, 201326591, 536870911, 1073741823, 2147483647, 67108863, 67108863, 12952010751, 30131879935, 64491618303, 137438953471, 274877906943, 549755813887] 11 .push (wLoad 1 false (.l 0)))) ((zGD (.l 5) false .push (fun k sp => zDst .push (vInt E fGtr .gtr 3 false true (.l 0) (.k (.int .i64 1000000))) (k sp))) ((fun k sp => zDst .push (vPick (.l 6) (.k (.bool true)) (.l 0)) (k sp)) ((zGD (.l 0) false .push (fun k sp => zDst .push (vMv (.v 1)) (k sp))) ((zGD (.l 1) false .push (fun k sp => zDst .push (vMv (.v 0)) (k sp))) ((zGD (.l 2) false .push (fun k sp => zDst .push (vIndexAddr 2 (.l 1) (.l 0)) (k sp))) ((zGD (.l 3) false .push (fun k sp => zDst .push (vFieldAddr 1 (.l 0)) (k sp))) ((zGD (.l 4) false .push (zDstWD [0, 0, 3, 7, 15, 31, 63, 127, 127, 511, 1023, 2047, 4095, 8191, 16383, 32767, 32767, 131071, 262143, 524287, 1048575, 2097151, 4194303, 8388607, 16777215, 33554431, 67108863, 67108863, 201326591, 536870911, 1073741823, 2147483647, 67108863, 67108863, 12952010751, 30131879935, 64491618303, 137438953471, 274877906943, 549755813887] 19 .push (wLoad 1 false (.l 0)))) ((zGD (.l 5) false .push (fun k sp => zDst .push (vInt E fEql .eql 25 false true (.l 0) (.k (.int .u64 0))) (k sp))) ((fun k sp => zDst .push (vPick (.l 6) (.k (.bool true)) (.l 0)) (k sp)) ((zGD (.l 0) false .push (fun k sp => zDst .push (vMv (.v 0)) (k sp))) ((zGD (.l 1) false .push (fun k sp => zDst .push (vInt E fGtr .gtr 3 false true (.l 0) (.k (.int .i64 0))) (k sp))) ((zGD (.l 2) false .push (fun k sp => zDst .push (vMv (.l 0)) (k sp))) ((zGD (.l 0) true .push (fun k sp => zDst .push (vMv (.v 1)) (k sp))) ((zGD (.l 1) true .push (fun k sp => zDst .push (vMv (.v 0)) (k sp))) ((zGD (.l 2) true .push (fun k sp => zDst .push (vInt E fSub .sub 3 false true (.l 0) (.k (.int .i64 1))) (k sp))) ((zGD (.l 3) true .push (fun k sp => zDst .push (vIndexAddr 2 (.l 2) (.l 0)) (k sp))) ((zGD (.l 4) true .push (fun k sp => zDst .push (vFieldAddr 0 (.l 0)) (k sp))) ((zGD (.l 5) true .push (zDstWD [0, 0, 3, 7, 15, 31, 63, 127, 127, 511, 1023, 2047, 4095, 8191, 16383, 32767, 32767, 131071, 262143, 524287, 1048575, 2097151, 4194303, 8388607, 16777215, 33554431, 67108863, 67108863, 201326591, 536870911, 1073741823, 2147483647, 67108863, 67108863, 12952010751, 30131879935, 64491618303, 137438953471, 274877906943, 549755813887] 31 .push (wLoad 1 false (.l 0)))) ((zGD (.l 6) true .push (fun k sp => zDst .push (vMv (.v 1)) (k sp))) ((zGD (.l 7) true .push (fun k sp => zDst .push (vMv (.v 0)) (k sp))) ((zGD (.l 8) true .push (fun k sp => zDst .push (vIndexAddr 2 (.l 1) (.l 0)) (k sp))) ((zGD (.l 9) true .push (fun k sp => zDst .push (vFieldAddr 0 (.l 0)) (k sp))) ((zGD (.l 10) true .push (zDstWD [0, 0, 3, 7, 15, 31, 63, 127, 127, 511, 1023, 2047, 4095, 8191, 16383, 32767, 32767, 131071, 262143, 524287, 1048575, 2097151, 4194303, 8388607, 16777215, 33554431, 67108863, 67108863, 201326591, 536870911, 1073741823, 2147483647, 67108863, 67108863, 12952010751, 30131879935, 64491618303, 137438953471, 274877906943, 549755813887] 36 .push (wLoad 1 false (.l 0)))) ((zGD (.l 11) true .push (fun k sp => zDst .push (vInt E (fGen .geq) .geq 3 false false (.l 5) (.l 0)) (k sp))) ((zGD (.l 15) false .push (fun k sp => zDst .push (vPick (.l 12) (.l 0) (.k (.bool false))) (k sp))) ((fun k sp => zDst .push (vPick (.l 16) (.k (.bool true)) (.l 0)) (k sp)) k)))))))))))))))))))))))))))))))))))
  (zCond (.l 0) (zSeq (zReg fun k => (zDst (.var 2) (vMv (.k (.bool false)))) k)
  zRet) zSkip)))
  (zReg fun k => (zDst .push (vMv (.v 0))) ((zDst .push (vInt E fAdd .add 3 false true (.l 0) (.k (.int .i64 1)))) ((zDst (.var 0) (vMv (.l 0))) k))))))))
  (zSeq (zReg fun k => (zDst .push (vLenL (.v 1))) ((zDst .push (vInt E (fGen .leq) .leq 3 false true (.l 0) (.k (.int .i64 40)))) ((zDst (.var 2) (vMv (.l 0))) k)))
  zRet))), [.tmp (.v 2)]⟩
theorem G63_ok (fn : Nat → Option Func) (pu : Nat → Bool) (pr : Nat → List AV → Option (Heap → Option (Eff × Acc))) : ZOk ⟨Tryz.tyT, fn, pu, pr⟩ npT F63 (G63 ⟨Tryz.tyT, fn, pu, pr⟩) := ⟨rfl, rfl, rfl, fun cy Y k => by kernel_rfl⟩
noncomputable def F64 : FFn := ⟨74, [0, 1, 3, 5, 2, 6, 4], (.seq (.reg [⟨.box 24 (.v 0), (.var 4), none, false, 0, (some 0)⟩,
    ⟨.box 30 (.v 1), (.var 2), none, false, 1, (some 1)⟩,
    ⟨.mv (.k (.bool false)), (.var 6), none, true, 2, none⟩]) (.seq (.seq (.reg [⟨.fieldAddr 30 (.v 2) 3, .push, none, true, 0, none⟩,
    ⟨.load 27 (.l 0), .push, none, true, 1, none⟩,
    ⟨.len 27 (.l 0), .push, none, false, 2, none⟩,
    ⟨.bin .gtr 3 false true (.l 0) (.k (.int .i64 40)), .push, none, false, 3, none⟩]) (.cond (.l 0) (.seq (.reg [⟨.mv (.k (.bool false)), (.var 6), none, true, 0, none⟩]) .ret) .skip)) (.seq (.seq (.reg [⟨.mv (.k (.int .i64 0)), (.var 3), none, true, 0, none⟩]) (.block 0 (.loop (.seq (.seq (.reg [⟨.fieldAddr 30 (.v 2) 3, .push, none, true, 1, none⟩,
    ⟨.load 27 (.l 0), .push, none, true, 2, none⟩,
    ⟨.len 27 (.l 0), .push, none, false, 3, none⟩,
    ⟨.bin .lss 3 false false (.v 3) (.l 0), .push, none, false, 4, none⟩]) (.cond (.l 0) .skip (.exit 0))) (.seq (.block 1 (.seq (.seq (.dreg 3 [0, 1, 0, 7, 15, 31, 63, 127, 255, 511, 1023, 2047, 255, 4351, 255, 28927, 61695, 131071, 262143, 524287, 1048575, 2097151, 4194303, 8388607, 16777215, 33554431, 16777215, 83886079, 268435455, 536870911, 16777215, 1090519039, 16777215, 7532969983, 16122904575, 34359738367, 68719476735, 137438953471, 274877906943] [⟨.fieldAddr 30 (.v 2) 3, .push, none, true, 0, none⟩,
    ⟨.load 27 (.l 0), .push, none, true, 1, none⟩,
    ⟨.indexAddr 27 (.l 0) (.v 3), .push, none, true, 3, none⟩,
    ⟨.load 58 (.l 0), .push, none, true, 4, none⟩,
    ⟨.call 63 [(.l 0)], .push, none, false, 5, (some 0)⟩,
    ⟨.un .not (.l 0), .push, none, false, 6, none⟩,
    ⟨.fieldAddr 24 (.v 4) 1, .push, (some ((.l 0), false)), true, 8, none⟩,
    ⟨.load 22 (.l 0), .push, (some ((.l 1), false)), true, 9, none⟩,
    ⟨.indexAddr 22 (.l 0) (.k (.int .i64 0)), .push, (some ((.l 2), false)), true, 10, none⟩,
    ⟨.load 24 (.l 0), .push, (some ((.l 3), false)), true, 11, none⟩,
    ⟨.fieldAddr 30 (.v 2) 4, .push, (some ((.l 4), false)), true, 12, none⟩,
    ⟨.load 28 (.l 0), .push, (some ((.l 5), false)), true, 13, none⟩,
    ⟨.mv (.v 3), .push, (some ((.l 6), false)), true, 14, none⟩,
    ⟨.indexAddr 28 (.l 1) (.l 0), .push, (some ((.l 7), false)), true, 15, none⟩,
    ⟨.load 30 (.l 0), .push, (some ((.l 8), false)), true, 16, none⟩,
    ⟨.call 33 [(.l 5), (.l 0)], .push, (some ((.l 9), false)), false, 17, (some 1)⟩,
    ⟨.un .not (.l 0), .push, (some ((.l 10), false)), false, 18, none⟩,
    ⟨.pick (.l 11) (.k (.bool true)) (.l 0), .push, none, true, 19, none⟩,
    ⟨.mv (.v 3), .push, (some ((.l 0), false)), true, 21, none⟩,
    ⟨.bin .gtr 3 false true (.l 0) (.k (.int .i64 0)), .push, (some ((.l 1), false)), false, 22, none⟩,
    ⟨.mv (.l 0), .push, (some ((.l 2), false)), true, 23, none⟩,
    ⟨.fieldAddr 30 (.v 2) 3, .push, (some ((.l 0), true)), true, 24, none⟩,
    ⟨.load 27 (.l 0), .push, (some ((.l 1), true)), true, 25, none⟩,
    ⟨.mv (.v 3), .push, (some ((.l 2), true)), true, 26, none⟩,
    ⟨.bin .sub 3 false true (.l 0) (.k (.int .i64 1)), .push, (some ((.l 3), true)), false, 27, none⟩,
    ⟨.indexAddr 27 (.l 2) (.l 0), .push, (some ((.l 4), true)), true, 28, none⟩,
    ⟨.load 58 (.l 0), .push, (some ((.l 5), true)), true, 29, none⟩,
    ⟨.fieldAddr 30 (.v 2) 3, .push, (some ((.l 6), true)), true, 30, none⟩,
    ⟨.load 27 (.l 0), .push, (some ((.l 7), true)), true, 31, none⟩,
    ⟨.mv (.v 3), .push, (some ((.l 8), true)), true, 32, none⟩,
    ⟨.indexAddr 27 (.l 1) (.l 0), .push, (some ((.l 9), true)), true, 33, none⟩,
    ⟨.load 58 (.l 0), .push, (some ((.l 10), true)), true, 34, none⟩,
    ⟨.call 89 [(.l 5), (.l 0)], .push, (some ((.l 11), true)), false, 35, (some 2)⟩,
    ⟨.un .not (.l 0), .push, (some ((.l 12), true)), false, 36, none⟩,
    ⟨.pick (.l 13) (.l 0) (.k (.bool false)), .push, (some ((.l 16), false)), true, 37, none⟩,
    ⟨.pick (.l 17) (.k (.bool true)) (.l 0), .push, none, true, 38, none⟩]) (.cond (.l 0) (.seq (.reg [⟨.mv (.k (.bool false)), (.var 6), none, true, 0, none⟩]) .ret) .skip)) (.seq (.reg [⟨.mv (.k (.int .i64 0)), (.var 5), none, true, 0, none⟩]) (.block 2 (.loop (.seq (.seq (.reg [⟨.bin .lss 3 false false (.v 5) (.v 3), .push, none, false, 2, none⟩]) (.cond (.l 0) .skip (.exit 2))) (.seq (.block 3 (.seq (.dreg 1 [0, 1, 0, 7, 15, 0, 32, 0, 224, 480, 1023, 2047] [⟨.fieldAddr 30 (.v 2) 3, .push, none, true, 0, none⟩,
    ⟨.load 27 (.l 0), .push, none, true, 1, none⟩,
    ⟨.indexAddr 27 (.l 0) (.v 5), .push, none, true, 3, none⟩,
    ⟨.load 58 (.l 0), .push, none, true, 4, none⟩,
    ⟨.fieldAddr 30 (.v 2) 3, .push, none, true, 5, none⟩,
    ⟨.load 27 (.l 0), .push, none, true, 6, none⟩,
    ⟨.indexAddr 27 (.l 0) (.v 3), .push, none, true, 8, none⟩,
    ⟨.load 58 (.l 0), .push, none, true, 9, none⟩,
    ⟨.call 88 [(.l 4), (.l 0)], .push, none, false, 10, (some 0)⟩,
    ⟨.bin .neq 3 false true (.l 0) (.k (.int .i64 2)), .push, none, false, 11, none⟩]) (.cond (.l 0) (.seq (.reg [⟨.mv (.k (.bool false)), (.var 6), none, true, 0, none⟩]) .ret) .skip))) (.reg [⟨.mv (.v 5), .push, none, true, 0, none⟩,
    ⟨.bin .add 3 false true (.l 0) (.k (.int .i64 1)), .push, none, false, 1, none⟩,
    ⟨.mv (.l 0), (.var 5), none, true, 2, none⟩])))))))) (.reg [⟨.mv (.v 3), .push, none, true, 0, none⟩,
    ⟨.bin .add 3 false true (.l 0) (.k (.int .i64 1)), .push, none, false, 1, none⟩,
    ⟨.mv (.l 0), (.var 3), none, true, 2, none⟩])))))) (.seq (.reg [⟨.mv (.k (.bool true)), (.var 6), none, true, 0, none⟩]) .ret)))), [.tmp (.v 6)]⟩
noncomputable def G64 (E : Env) : ZFn := ⟨74, [0, 1, 3, 5, 2, 6, 4], fun cy Y fuel =>
  (zSeq (zReg fun k => (zStep E (cy Y) ⟨.box 24 (.v 0), (.var 4), none, false, 0, (some 0)⟩) ((zStep E (cy Y) ⟨.box 30 (.v 1), (.var 2), none, false, 1, (some 1)⟩) ((zDst (.var 6) (vMv (.k (.bool false)))) k)))
  (zSeq (zSeq (zReg fun k => (zDst .push (vFieldAddr 3 (.v 2))) ((zDstW .push (wLoad 1 false (.l 0))) ((zDst .push (vLenL (.l 0))) ((zDst .push (vInt E fGtr .gtr 3 false true (.l 0) (.k (.int .i64 40)))) k))))
  (zCond (.l 0) (zSeq (zReg fun k => (zDst (.var 6) (vMv (.k (.bool false)))) k)
  zRet) zSkip))
  (zSeq (zSeq (zReg fun k => (zDst (.var 3) (vMv (.k (.int .i64 0)))) k)
  (zBlock 0 (zLoop fuel (zSeq (zSeq (zReg fun k => (zDst .push (vFieldAddr 3 (.v 2))) ((zDstW .push (wLoad 1 false (.l 0))) ((zDst .push (vLenL (.l 0))) ((zDst .push (vInt E fLss .lss 3 false false (.v 3) (.l 0))) k))))
  (zCond (.l 0) zSkip (zExit 0)))
  (zSeq (zBlock 1 (zSeq (zSeq (zDreg 3 fun n0 k => (fun k sp => zDst .push (vFieldAddr 3 (.v 2)) (k sp)) ((zDstWD [0, 1, 0, 7, 15, 31, 63, 127, 255, 511, 1023, 2047, 255, 4351, 255, 28927, 61695, 131071, 262143, 524287, 1048575, 2097151, 4194303, 8388607, 16777215, 33554431, 16777215, 83886079, 268435455, 536870911, 16777215, 1090519039, 16777215, 7532969983, 16122904575, 34359738367, 68719476735, 137438953471, 274877906943] 1 .push (wLoad 1 false (.l 0))) ((fun k sp => zDst .push (vIndexAddr 1 (.l 0) (.v 3)) (k sp)) ((zDstWD [0, 1, 0, 7, 15, 31, 63, 127, 255, 511, 1023, 2047, 255, 4351, 255, 28927, 61695, 131071, 262143, 524287, 1048575, 2097151, 4194303, 8388607, 16777215, 33554431, 16777215, 83886079, 268435455, 536870911, 16777215, 1090519039, 16777215, 7532969983, 16122904575, 34359738367, 68719476735, 137438953471, 274877906943] 4 .push (wLoad 1 false (.l 0))) ((zCallD (cy Y) [0, 1, 0, 7, 15, 31, 63, 127, 255, 511, 1023, 2047, 255, 4351, 255, 28927, 61695, 131071, 262143, 524287, 1048575, 2097151, 4194303, 8388607, 16777215, 33554431, 16777215, 83886079, 268435455, 536870911, 16777215, 1090519039, 16777215, 7532969983, 16122904575, 34359738367, 68719476735, 137438953471, 274877906943] 5 63 [(.l 0)] .push) ((fun k sp => zDst .push (vNot (.l 0)) (k sp)) ((zGD (.l 0) false .push (fun k sp => zDst .push (vFieldAddr 1 (.v 4)) (k sp))) ((zGD (.l 1) false .push (zDstWD [0, 1, 0, 7, 15, 31, 63, 127, 255, 511, 1023, 2047, 255, 4351, 255, 28927, 61695, 131071, 262143, 524287, 1048575, 2097151, 4194303, 8388607, 16777215, 33554431, 16777215, 83886079, 268435455, 536870911, 16777215, 1090519039, 16777215, 7532969983, 16122904575, 34359738367, 68719476735, 137438953471, 274877906943] 9 .push (wLoad 1 false (.l 0)))) ((zGD (.l 2) false .push (fun k sp => zDst .push (vIndexAddr 2 (.l 0) (.k (.int .i64 0))) (k sp))) ((zGD (.l 3) false .push (zDstWD [0, 1, 0, 7, 15, 31, 63, 127, 255, 511, 1023, 2047, 255, 4351, 255, 28927, 61695, 131071, 262143, 524287, 1048575, 2097151, 4194303, 8388607, 16777215, 33554431, 16777215, 83886079, 268435455, 536870911, 16777215, 1090519039, 16777215, 7532969983, 16122904575, 34359738367, 68719476735, 137438953471, 274877906943] 11 .push (wLoad 2 true (.l 0)))) ((zGD (.l 4) false .push (fun k sp => zDst .push (vFieldAddr 4 (.v 2)) (k sp))) ((zGD (.l 5) false .push (zDstWD [0, 1, 0, 7, 15, 31, 63, 127, 255, 511, 1023, 2047, 255, 4351, 255, 28927, 61695, 131071, 262143, 524287, 1048575, 2097151, 4194303, 8388607, 16777215, 33554431, 16777215, 83886079, 268435455, 536870911, 16777215, 1090519039, 16777215, 7532969983, 16122904575, 34359738367, 68719476735, 137438953471, 274877906943] 13 .push (wLoad 1 false (.l 0)))) ((zGD (.l 6) false .push (fun k sp => zDst .push (vMv (.v 3)) (k sp))) ((zGD (.l 7) false .push (fun k sp => zDst .push (vIndexAddr 5 (.l 1) (.l 0)) (k sp))) ((zGD (.l 8) false .push (zDstWD [0, 1, 0, 7, 15, 31, 63, 127, 255, 511, 1023, 2047, 255, 4351, 255, 28927, 61695, 131071, 262143, 524287, 1048575, 2097151, 4194303, 8388607, 16777215, 33554431, 16777215, 83886079, 268435455, 536870911, 16777215, 1090519039, 16777215, 7532969983, 16122904575, 34359738367, 68719476735, 137438953471, 274877906943] 16 .push (wLoad 5 true (.l 0)))) ((zGD (.l 9) false .push (zCallD (cy Y) [0, 1, 0, 7, 15, 31, 63, 127, 255, 511, 1023, 2047, 255, 4351, 255, 28927, 61695, 131071, 262143, 524287, 1048575, 2097151, 4194303, 8388607, 16777215, 33554431, 16777215, 83886079, 268435455, 536870911, 16777215, 1090519039, 16777215, 7532969983, 16122904575, 34359738367, 68719476735, 137438953471, 274877906943] 17 33 [(.l 5), (.l 0)] .push)) ((zGD (.l 10) false .push (fun k sp => zDst .push (vNot (.l 0)) (k sp))) ((fun k sp => zDst .push (vPick (.l 11) (.k (.bool true)) (.l 0)) (k sp)) ((zGD (.l 0) false .push (fun k sp => zDst .push (vMv (.v 3)) (k sp))) ((zGD (.l 1) false .push (fun k sp => zDst .push (vInt E fGtr .gtr 3 false true (.l 0) (.k (.int .i64 0))) (k sp))) ((zGD (.l 2) false .push (fun k sp => zDst .push (vMv (.l 0)) (k sp))) ((zGD (.l 0) true .push (fun k sp => zDst .push (vFieldAddr 3 (.v 2)) (k sp))) ((zGD (.l 1) true .push (zDstWD [0, 1, 0, 7, 15, 31, 63, 127, 255, 511, 1023, 2047, 255, 4351, 255, 28927, 61695, 131071, 262143, 524287, 1048575, 2097151, 4194303, 8388607, 16777215, 33554431, 16777215, 83886079, 268435455, 536870911, 16777215, 1090519039, 16777215, 7532969983, 16122904575, 34359738367, 68719476735, 137438953471, 274877906943] 25 .push (wLoad 1 false (.l 0)))) ((zGD (.l 2) true .push (fun k sp => zDst .push (vMv (.v 3)) (k sp))) ((zGD (.l 3) true .push (fun k sp => zDst .push (vInt E fSub .sub 3 false true (.l 0) (.k (.int .i64 1))) (k sp))) ((zGD (.l 4) true .push (fun k sp => zDst .push (vIndexAddr 1 (.l 2) (.l 0)) (k sp))) ((zGD (.l 5) true .push (zDstWD [0, 1, 0, 7, 15, 31, 63, 127, 255, 511, 1023, 2047, 255, 4351, 255, 28927, 61695, 131071, 262143, 524287, 1048575, 2097151, 4194303, 8388607, 16777215, 33554431, 16777215, 83886079, 268435455, 536870911, 16777215, 1090519039, 16777215, 7532969983, 16122904575, 34359738367, 68719476735, 137438953471, 274877906943] 29 .push (wLoad 1 false (.l 0)))) ((zGD (.l 6) true .push (fun k sp => zDst .push (vFieldAddr 3 (.v 2)) (k sp))) ((zGD (.l 7) true .push (zDstWD [0, 1, 0, 7, 15, 31, 63, 127, 255, 511, 1023, 2047, 255, 4351, 255, 28927, 61695, 131071, 262143, 524287, 1048575, 2097151, 4194303, 8388607, 16777215, 33554431, 16777215, 83886079, 268435455, 536870911, 16777215, 1090519039, 16777215, 7532969983, 16122904575, 34359738367, 68719476735, 137438953471, 274877906943] 31 .push (wLoad 1 false (.l 0)))) ((zGD (.l 8) true .push (fun k sp => zDst .push (vMv (.v 3)) (k sp))) ((zGD (.l 9) true .push (fun k sp => zDst .push (vIndexAddr 1 (.l 1) (.l 0)) (k sp))) ((zGD (.l 10) true .push (zDstWD [0, 1, 0, 7, 15, 31, 63, 127, 255, 511, 1023, 2047, 255, 4351, 255, 28927, 61695, 131071, 262143, 524287, 1048575, 2097151, 4194303, 8388607, 16777215, 33554431, 16777215, 83886079, 268435455, 536870911, 16777215, 1090519039, 16777215, 7532969983, 16122904575, 34359738367, 68719476735, 137438953471, 274877906943] 34 .push (wLoad 1 false (.l 0)))) ((zGD (.l 11) true .push (zCallD (cy Y) [0, 1, 0, 7, 15, 31, 63, 127, 255, 511, 1023, 2047, 255, 4351, 255, 28927, 61695, 131071, 262143, 524287, 1048575, 2097151, 4194303, 8388607, 16777215, 33554431, 16777215, 83886079, 268435455, 536870911, 16777215, 1090519039, 16777215, 7532969983, 16122904575, 34359738367, 68719476735, 137438953471, 274877906943] 35 89 [(.l 5), (.l 0)] .push)) ((zGD (.l 12) true .push (fun k sp => zDst .push (vNot (.l 0)) (k sp))) ((zGD (.l 16) false .push (fun k sp => zDst .push (vPick (.l 13) (.l 0) (.k (.bool false))) (k sp))) ((fun k sp => zDst .push (vPick (.l 17) (.k (.bool true)) (.l 0)) (k sp)) k))))))))))))))))))))))))))))))))))))
  (zCond (.l 0) (zSeq (zReg fun k => (zDst (.var 6) (vMv (.k (.bool false)))) k)
  zRet) zSkip))
  (zSeq (zReg fun k => (zDst (.var 5) (vMv (.k (.int .i64 0)))) k)
  (zBlock 2 (zLoop fuel (zSeq (zSeq (zReg fun k => (zDst .push (vInt E fLss .lss 3 false false (.v 5) (.v 3))) k)
  (zCond (.l 0) zSkip (zExit 2)))
  (zSeq (zBlock 3 (zSeq (zDreg 1 fun n0 k => (fun k sp => zDst .push (vFieldAddr 3 (.v 2)) (k sp)) ((zDstWD [0, 1, 0, 7, 15, 0, 32, 0, 224, 480, 1023, 2047] 1 .push (wLoad 1 false (.l 0))) ((fun k sp => zDst .push (vIndexAddr 1 (.l 0) (.v 5)) (k sp)) ((zDstWD [0, 1, 0, 7, 15, 0, 32, 0, 224, 480, 1023, 2047] 4 .push (wLoad 1 false (.l 0))) ((fun k sp => zDst .push (vFieldAddr 3 (.v 2)) (k sp)) ((zDstWD [0, 1, 0, 7, 15, 0, 32, 0, 224, 480, 1023, 2047] 6 .push (wLoad 1 false (.l 0))) ((fun k sp => zDst .push (vIndexAddr 1 (.l 0) (.v 3)) (k sp)) ((zDstWD [0, 1, 0, 7, 15, 0, 32, 0, 224, 480, 1023, 2047] 9 .push (wLoad 1 false (.l 0))) ((zCallD (cy Y) [0, 1, 0, 7, 15, 0, 32, 0, 224, 480, 1023, 2047] 10 88 [(.l 4), (.l 0)] .push) ((fun k sp => zDst .push (vInt E fNeq .neq 3 false true (.l 0) (.k (.int .i64 2))) (k sp)) k))))))))))
  (zCond (.l 0) (zSeq (zReg fun k => (zDst (.var 6) (vMv (.k (.bool false)))) k)
  zRet) zSkip)))
  (zReg fun k => (zDst .push (vMv (.v 5))) ((zDst .push (vInt E fAdd .add 3 false true (.l 0) (.k (.int .i64 1)))) ((zDst (.var 5) (vMv (.l 0))) k))))))))))
  (zReg fun k => (zDst .push (vMv (.v 3))) ((zDst .push (vInt E fAdd .add 3 false true (.l 0) (.k (.int .i64 1)))) ((zDst (.var 3) (vMv (.l 0))) k))))))))
  (zSeq (zReg fun k => (zDst (.var 6) (vMv (.k (.bool true)))) k)
  zRet)))), [.tmp (.v 6)]⟩
theorem G64_ok (fn : Nat → Option Func) (pu : Nat → Bool) (pr : Nat → List AV → Option (Heap → Option (Eff × Acc))) : ZOk ⟨Tryz.tyT, fn, pu, pr⟩ npT F64 (G64 ⟨Tryz.tyT, fn, pu, pr⟩) := ⟨rfl, rfl, rfl, fun cy Y k => by kernel_rfl⟩
noncomputable def F65 : FFn := ⟨69, [0, 1, 2, 10, 9, 3, 8], (.seq (.reg [⟨.mv (.k (.sl 0 [] true)), (.var 6), none, true, 0, none⟩]) (.seq (.reg [⟨.mv (.k (.sl 0 [] true)), (.var 4), none, true, 0, none⟩]) (.seq (.block 0 (.loop (.seq (.seq (.reg [⟨.len 58 (.v 0), .push, none, false, 1, none⟩,
    ⟨.bin .gtr 3 false true (.l 0) (.k (.int .i64 0)), .push, none, false, 2, none⟩,
    ⟨.mv (.v 1), .push, (some ((.l 0), true)), true, 4, none⟩,
    ⟨.len 58 (.l 0), .push, (some ((.l 1), true)), false, 5, none⟩,
    ⟨.bin .gtr 3 false true (.l 0) (.k (.int .i64 0)), .push, (some ((.l 2), true)), false, 6, none⟩,
    ⟨.pick (.l 3) (.l 0) (.k (.bool false)), .push, none, true, 7, none⟩]) (.cond (.l 0) .skip (.exit 0))) (.block 1 (.seq (.dreg 1 [0, 0, 2, 6, 0, 16, 48, 127, 255] [⟨.indexAddr 58 (.v 0) (.k (.int .i64 0)), .push, none, true, 2, none⟩,
    ⟨.load 57 (.l 0), .push, none, true, 3, none⟩,
    ⟨.indexAddr 58 (.v 1) (.k (.int .i64 0)), .push, none, true, 5, none⟩,
    ⟨.load 57 (.l 0), .push, none, true, 6, none⟩,
    ⟨.callv (.v 2) [(.l 2), (.l 0)], .push, none, false, 7, (some 0)⟩,
    ⟨.mv (.l 0), (.var 3), none, true, 8, none⟩]) (.block 2 (.seq (.reg [⟨.bin .lss 3 false true (.v 3) (.k (.int .i64 0)), .push, none, false, 1, none⟩,
    ⟨.mv (.l 0), .push, none, true, 2, none⟩]) (.cond (.l 0) (.dreg 2 [0, 0, 2, 6, 14, 31, 0, 64, 63, 511] [⟨.mv (.v 4), .push, none, true, 0, none⟩,
    ⟨.mv (.v 0), .push, none, true, 1, none⟩,
    ⟨.indexAddr 58 (.l 0) (.k (.int .i64 0)), .push, none, true, 2, none⟩,
    ⟨.load 57 (.l 0), .push, none, true, 3, none⟩,
    ⟨.buildSlice 58 1 [(0, (.l 0))], .push, none, false, 4, (some 0)⟩,
    ⟨.append 58 58 (.l 4) (.l 0), .push, none, false, 5, (some 1)⟩,
    ⟨.mv (.v 0), .push, none, true, 6, none⟩,
    ⟨.slice 58 (.l 0) (some (.k (.int .i64 1))) none none, .push, none, false, 7, none⟩,
    ⟨.mv (.l 2), (.var 4), none, true, 8, none⟩,
    ⟨.mv (.l 0), (.var 0), none, true, 9, none⟩]) (.seq (.reg [⟨.bin .gtr 3 false true (.v 3) (.k (.int .i64 0)), .push, none, false, 1, none⟩,
    ⟨.mv (.l 0), .push, none, true, 2, none⟩]) (.cond (.l 0) (.dreg 2 [0, 0, 2, 6, 14, 31, 0, 64, 63, 511] [⟨.mv (.v 4), .push, none, true, 0, none⟩,
    ⟨.mv (.v 1), .push, none, true, 1, none⟩,
    ⟨.indexAddr 58 (.l 0) (.k (.int .i64 0)), .push, none, true, 2, none⟩,
    ⟨.load 57 (.l 0), .push, none, true, 3, none⟩,
    ⟨.buildSlice 58 1 [(0, (.l 0))], .push, none, false, 4, (some 0)⟩,
    ⟨.append 58 58 (.l 4) (.l 0), .push, none, false, 5, (some 1)⟩,
    ⟨.mv (.v 1), .push, none, true, 6, none⟩,
    ⟨.slice 58 (.l 0) (some (.k (.int .i64 1))) none none, .push, none, false, 7, none⟩,
    ⟨.mv (.l 2), (.var 4), none, true, 8, none⟩,
    ⟨.mv (.l 0), (.var 1), none, true, 9, none⟩]) (.dreg 3 [0, 0, 0, 4, 12, 0, 32, 96, 254, 510, 1023, 0, 2048, 0, 8192, 2047, 40959, 131071] [⟨.mv (.v 4), .push, none, true, 0, none⟩,
    ⟨.mv (.v 0), .push, none, true, 2, none⟩,
    ⟨.indexAddr 58 (.l 0) (.k (.int .i64 0)), .push, none, true, 3, none⟩,
    ⟨.load 57 (.l 0), .push, none, true, 4, none⟩,
    ⟨.mv (.v 1), .push, none, true, 5, none⟩,
    ⟨.indexAddr 58 (.l 0) (.k (.int .i64 0)), .push, none, true, 6, none⟩,
    ⟨.load 57 (.l 0), .push, none, true, 7, none⟩,
    ⟨.callv (.v 5) [(.l 3), (.l 0)], .push, none, false, 8, (some 0)⟩,
    ⟨.buildSlice 58 1 [(0, (.l 0))], .push, none, false, 9, (some 1)⟩,
    ⟨.append 58 58 (.l 8) (.l 0), .push, none, false, 10, (some 2)⟩,
    ⟨.mv (.v 0), .push, none, true, 11, none⟩,
    ⟨.slice 58 (.l 0) (some (.k (.int .i64 1))) none none, .push, none, false, 12, none⟩,
    ⟨.mv (.v 1), .push, none, true, 13, none⟩,
    ⟨.slice 58 (.l 0) (some (.k (.int .i64 1))) none none, .push, none, false, 14, none⟩,
    ⟨.mv (.l 4), (.var 4), none, true, 15, none⟩,
    ⟨.mv (.l 2), (.var 0), none, true, 16, none⟩,
    ⟨.mv (.l 0), (.var 1), none, true, 17, none⟩]))))))))))) (.seq (.reg [⟨.append 58 58 (.v 4) (.v 0), .push, none, false, 2, (some 0)⟩,
    ⟨.append 58 58 (.l 0) (.v 1), .push, none, false, 4, (some 1)⟩,
    ⟨.mv (.l 0), (.var 6), none, true, 5, none⟩]) .ret)))), [.tmp (.v 6)]⟩
noncomputable def G65 (E : Env) : ZFn := ⟨69, [0, 1, 2, 10, 9, 3, 8], fun cy Y fuel =>
  (zSeq (zReg fun k => (zDst (.var 6) (vMv (.k (.sl 0 [] true)))) k)
  (zSeq (zReg fun k => (zDst (.var 4) (vMv (.k (.sl 0 [] true)))) k)
  (zSeq (zBlock 0 (zLoop fuel (zSeq (zSeq (zReg fun k => (zDst .push (vLenL (.v 0))) ((zDst .push (vInt E fGtr .gtr 3 false true (.l 0) (.k (.int .i64 0)))) ((zG (.l 0) true .push (zDst .push (vMv (.v 1)))) ((zG (.l 1) true .push (zDst .push (vLenL (.l 0)))) ((zG (.l 2) true .push (zDst .push (vInt E fGtr .gtr 3 false true (.l 0) (.k (.int .i64 0))))) ((zDst .push (vPick (.l 3) (.l 0) (.k (.bool false)))) k))))))
  (zCond (.l 0) zSkip (zExit 0)))
  (zBlock 1 (zSeq (zDreg 1 fun n0 k => (fun k sp => zDst .push (vIndexAddr 2 (.v 0) (.k (.int .i64 0))) (k sp)) ((zDstWD [0, 0, 2, 6, 0, 16, 48, 127, 255] 3 .push (wLoad 2 true (.l 0))) ((fun k sp => zDst .push (vIndexAddr 2 (.v 1) (.k (.int .i64 0))) (k sp)) ((zDstWD [0, 0, 2, 6, 0, 16, 48, 127, 255] 6 .push (wLoad 2 true (.l 0))) ((zStepD E (cy Y) [0, 0, 2, 6, 0, 16, 48, 127, 255] n0 ⟨.callv (.v 2) [(.l 2), (.l 0)], .push, none, false, 7, (some 0)⟩) ((fun k sp => zDst (.var 3) (vMv (.l 0)) (k sp)) k))))))
  (zBlock 2 (zSeq (zReg fun k => (zDst .push (vInt E fLss .lss 3 false true (.v 3) (.k (.int .i64 0)))) ((zDst .push (vMv (.l 0))) k))
  (zCond (.l 0) (zDreg 2 fun n0 k => (fun k sp => zDst .push (vMv (.v 4)) (k sp)) ((fun k sp => zDst .push (vMv (.v 0)) (k sp)) ((fun k sp => zDst .push (vIndexAddr 2 (.l 0) (.k (.int .i64 0))) (k sp)) ((zDstWD [0, 0, 2, 6, 14, 31, 0, 64, 63, 511] 3 .push (wLoad 2 true (.l 0))) ((zStepD E (cy Y) [0, 0, 2, 6, 14, 31, 0, 64, 63, 511] n0 ⟨.buildSlice 58 1 [(0, (.l 0))], .push, none, false, 4, (some 0)⟩) ((zStepD E (cy Y) [0, 0, 2, 6, 14, 31, 0, 64, 63, 511] n0 ⟨.append 58 58 (.l 4) (.l 0), .push, none, false, 5, (some 1)⟩) ((fun k sp => zDst .push (vMv (.v 0)) (k sp)) ((zStepD E (cy Y) [0, 0, 2, 6, 14, 31, 0, 64, 63, 511] n0 ⟨.slice 58 (.l 0) (some (.k (.int .i64 1))) none none, .push, none, false, 7, none⟩) ((fun k sp => zDst (.var 4) (vMv (.l 2)) (k sp)) ((fun k sp => zDst (.var 0) (vMv (.l 0)) (k sp)) k)))))))))) (zSeq (zReg fun k => (zDst .push (vInt E fGtr .gtr 3 false true (.v 3) (.k (.int .i64 0)))) ((zDst .push (vMv (.l 0))) k))
  (zCond (.l 0) (zDreg 2 fun n0 k => (fun k sp => zDst .push (vMv (.v 4)) (k sp)) ((fun k sp => zDst .push (vMv (.v 1)) (k sp)) ((fun k sp => zDst .push (vIndexAddr 2 (.l 0) (.k (.int .i64 0))) (k sp)) ((zDstWD [0, 0, 2, 6, 14, 31, 0, 64, 63, 511] 3 .push (wLoad 2 true (.l 0))) ((zStepD E (cy Y) [0, 0, 2, 6, 14, 31, 0, 64, 63, 511] n0 ⟨.buildSlice 58 1 [(0, (.l 0))], .push, none, false, 4, (some 0)⟩) ((zStepD E (cy Y) [0, 0, 2, 6, 14, 31, 0, 64, 63, 511] n0 ⟨.append 58 58 (.l 4) (.l 0), .push, none, false, 5, (some 1)⟩) ((fun k sp => zDst .push (vMv (.v 1)) (k sp)) ((zStepD E (cy Y) [0, 0, 2, 6, 14, 31, 0, 64, 63, 511] n0 ⟨.slice 58 (.l 0) (some (.k (.int .i64 1))) none none, .push, none, false, 7, none⟩) ((fun k sp => zDst (.var 4) (vMv (.l 2)) (k sp)) ((fun k sp => zDst (.var 1) (vMv (.l 0)) (k sp)) k)))))))))) (zDreg 3 fun n0 k => (fun k sp => zDst .push (vMv (.v 4)) (k sp)) ((fun k sp => zDst .push (vMv (.v 0)) (k sp)) ((fun k sp => zDst .push (vIndexAddr 2 (.l 0) (.k (.int .i64 0))) (k sp)) ((zDstWD [0, 0, 0, 4, 12, 0, 32, 96, 254, 510, 1023, 0, 2048, 0, 8192, 2047, 40959, 131071] 4 .push (wLoad 2 true (.l 0))) ((fun k sp => zDst .push (vMv (.v 1)) (k sp)) ((fun k sp => zDst .push (vIndexAddr 2 (.l 0) (.k (.int .i64 0))) (k sp)) ((zDstWD [0, 0, 0, 4, 12, 0, 32, 96, 254, 510, 1023, 0, 2048, 0, 8192, 2047, 40959, 131071] 7 .push (wLoad 2 true (.l 0))) ((zStepD E (cy Y) [0, 0, 0, 4, 12, 0, 32, 96, 254, 510, 1023, 0, 2048, 0, 8192, 2047, 40959, 131071] n0 ⟨.callv (.v 5) [(.l 3), (.l 0)], .push, none, false, 8, (some 0)⟩) ((zStepD E (cy Y) [0, 0, 0, 4, 12, 0, 32, 96, 254, 510, 1023, 0, 2048, 0, 8192, 2047, 40959, 131071] n0 ⟨.buildSlice 58 1 [(0, (.l 0))], .push, none, false, 9, (some 1)⟩) ((zStepD E (cy Y) [0, 0, 0, 4, 12, 0, 32, 96, 254, 510, 1023, 0, 2048, 0, 8192, 2047, 40959, 131071] n0 ⟨.append 58 58 (.l 8) (.l 0), .push, none, false, 10, (some 2)⟩) ((fun k sp => zDst .push (vMv (.v 0)) (k sp)) ((zStepD E (cy Y) [0, 0, 0, 4, 12, 0, 32, 96, 254, 510, 1023, 0, 2048, 0, 8192, 2047, 40959, 131071] n0 ⟨.slice 58 (.l 0) (some (.k (.int .i64 1))) none none, .push, none, false, 12, none⟩) ((fun k sp => zDst .push (vMv (.v 1)) (k sp)) ((zStepD E (cy Y) [0, 0, 0, 4, 12, 0, 32, 96, 254, 510, 1023, 0, 2048, 0, 8192, 2047, 40959, 131071] n0 ⟨.slice 58 (.l 0) (some (.k (.int .i64 1))) none none, .push, none, false, 14, none⟩) ((fun k sp => zDst (.var 4) (vMv (.l 4)) (k sp)) ((fun k sp => zDst (.var 0) (vMv (.l 2)) (k sp)) ((fun k sp => zDst (.var 1) (vMv (.l 0)) (k sp)) k)))))))))))))))))))))))))))
  (zSeq (zReg fun k => (zStep E (cy Y) ⟨.append 58 58 (.v 4) (.v 0), .push, none, false, 2, (some 0)⟩) ((zStep E (cy Y) ⟨.append 58 58 (.l 0) (.v 1), .push, none, false, 4, (some 1)⟩) ((zDst (.var 6) (vMv (.l 0))) k)))
  zRet)))), [.tmp (.v 6)]⟩
theorem G65_ok (fn : Nat → Option Func) (pu : Nat → Bool) (pr : Nat → List AV → Option (Heap → Option (Eff × Acc))) : ZOk ⟨Tryz.tyT, fn, pu, pr⟩ npT F65 (G65 ⟨Tryz.tyT, fn, pu, pr⟩) := ⟨rfl, rfl, rfl, fun cy Y k => by kernel_rfl⟩
noncomputable def F66 : FFn := ⟨10, [0, 1, 2, 3, 4], (.seq (.reg [⟨.box 57 (.v 0), (.var 2), none, false, 0, (some 0)⟩,
    ⟨.box 57 (.v 1), (.var 3), none, false, 1, (some 1)⟩,
    ⟨.mv (.k (.int .i64 0)), (.var 4), none, true, 2, none⟩]) (.seq (.reg [⟨.fieldAddr 57 (.v 2) 0, .push, none, true, 0, none⟩,
    ⟨.load 3 (.l 0), .push, none, true, 1, none⟩,
    ⟨.fieldAddr 57 (.v 3) 0, .push, none, true, 2, none⟩,
    ⟨.load 3 (.l 0), .push, none, true, 3, none⟩,
    ⟨.call 96 [(.l 2), (.l 0)], .push, none, false, 4, (some 0)⟩,
    ⟨.mv (.l 0), (.var 4), none, true, 5, none⟩]) .ret)), [.tmp (.v 4)]⟩
noncomputable def G66 (E : Env) : ZFn := ⟨10, [0, 1, 2, 3, 4], fun cy Y fuel =>
  (zSeq (zReg fun k => (zStep E (cy Y) ⟨.box 57 (.v 0), (.var 2), none, false, 0, (some 0)⟩) ((zStep E (cy Y) ⟨.box 57 (.v 1), (.var 3), none, false, 1, (some 1)⟩) ((zDst (.var 4) (vMv (.k (.int .i64 0)))) k)))
  (zSeq (zReg fun k => (zDst .push (vFieldAddr 0 (.v 2))) ((zDstW .push (wLoad 1 false (.l 0))) ((zDst .push (vFieldAddr 0 (.v 3))) ((zDstW .push (wLoad 1 false (.l 0))) ((zCall (cy Y) 96 [(.l 2), (.l 0)] .push) ((zDst (.var 4) (vMv (.l 0))) k))))))
  zRet)), [.tmp (.v 4)]⟩
theorem G66_ok (fn : Nat → Option Func) (pu : Nat → Bool) (pr : Nat → List AV → Option (Heap → Option (Eff × Acc))) : ZOk ⟨Tryz.tyT, fn, pu, pr⟩ npT F66 (G66 ⟨Tryz.tyT, fn, pu, pr⟩) := ⟨rfl, rfl, rfl, fun cy Y k => by kernel_rfl⟩
noncomputable def F68 : FFn := ⟨27, [1, 0, 4], (.seq (.reg [⟨.mv (.k (.sl 0 [] true)), (.var 2), none, true, 0, none⟩]) (.seq (.seq (.reg [⟨.bin .lss 3 false true (.v 0) (.k (.int .i64 0)), .push, none, false, 1, none⟩]) (.cond (.l 0) (.reg [⟨.mkIface 9 (.k (.str [99, 97, 110, 110, 111, 116, 32, 98, 101, 32, 110, 101, 103, 97, 116, 105, 118, 101])), .push, none, false, 0, none⟩,
    ⟨.fail, .none, none, false, 1, none⟩]) .skip)) (.seq (.seq (.reg [⟨.mv (.v 0), .push, none, true, 0, none⟩,
    ⟨.ext (.cap 58) [(.v 1)], .push, none, false, 2, none⟩,
    ⟨.len 58 (.v 1), .push, none, false, 4, none⟩,
    ⟨.bin .sub 3 false false (.l 1) (.l 0), .push, none, false, 5, none⟩,
    ⟨.bin .sub 3 false false (.l 3) (.l 0), .push, none, false, 6, none⟩,
    ⟨.mv (.l 0), (.var 0), none, true, 7, none⟩]) (.seq (.reg [⟨.bin .gtr 3 false true (.v 0) (.k (.int .i64 0)), .push, none, false, 1, none⟩]) (.cond (.l 0) (.reg [⟨.mv (.v 1), .push, none, true, 0, none⟩,
    ⟨.mv (.v 1), .push, none, true, 1, none⟩,
    ⟨.ext (.cap 58) [(.l 0)], .push, none, false, 2, none⟩,
    ⟨.slice 58 (.l 2) none (some (.l 0)) none, .push, none, false, 3, none⟩,
    ⟨.append 58 3 (.l 0) (.v 0), .push, none, false, 5, (some 0)⟩,
    ⟨.mv (.v 1), .push, none, true, 6, none⟩,
    ⟨.len 58 (.l 0), .push, none, false, 7, none⟩,
    ⟨.slice 58 (.l 2) none (some (.l 0)) none, .push, none, false, 8, none⟩,
    ⟨.mv (.l 0), (.var 1), none, true, 9, none⟩]) .skip))) (.seq (.reg [⟨.mv (.v 1), (.var 2), none, true, 1, none⟩]) .ret)))), [.tmp (.v 2)]⟩
noncomputable def G68 (E : Env) : ZFn := ⟨27, [1, 0, 4], fun cy Y fuel =>
  (zSeq (zReg fun k => (zDst (.var 2) (vMv (.k (.sl 0 [] true)))) k)
  (zSeq (zSeq (zReg fun k => (zDst .push (vInt E fLss .lss 3 false true (.v 0) (.k (.int .i64 0)))) k)
  (zCond (.l 0) (zReg fun k => (zStep E (cy Y) ⟨.mkIface 9 (.k (.str [99, 97, 110, 110, 111, 116, 32, 98, 101, 32, 110, 101, 103, 97, 116, 105, 118, 101])), .push, none, false, 0, none⟩) ((zStep E (cy Y) ⟨.fail, .none, none, false, 1, none⟩) k)) zSkip))
  (zSeq (zSeq (zReg fun k => (zDst .push (vMv (.v 0))) ((zStep E (cy Y) ⟨.ext (.cap 58) [(.v 1)], .push, none, false, 2, none⟩) ((zDst .push (vLenL (.v 1))) ((zDst .push (vInt E fSub .sub 3 false false (.l 1) (.l 0))) ((zDst .push (vInt E fSub .sub 3 false false (.l 3) (.l 0))) ((zDst (.var 0) (vMv (.l 0))) k))))))
  (zSeq (zReg fun k => (zDst .push (vInt E fGtr .gtr 3 false true (.v 0) (.k (.int .i64 0)))) k)
  (zCond (.l 0) (zReg fun k => (zDst .push (vMv (.v 1))) ((zDst .push (vMv (.v 1))) ((zStep E (cy Y) ⟨.ext (.cap 58) [(.l 0)], .push, none, false, 2, none⟩) ((zStep E (cy Y) ⟨.slice 58 (.l 2) none (some (.l 0)) none, .push, none, false, 3, none⟩) ((zStep E (cy Y) ⟨.append 58 3 (.l 0) (.v 0), .push, none, false, 5, (some 0)⟩) ((zDst .push (vMv (.v 1))) ((zDst .push (vLenL (.l 0))) ((zStep E (cy Y) ⟨.slice 58 (.l 2) none (some (.l 0)) none, .push, none, false, 8, none⟩) ((zDst (.var 1) (vMv (.l 0))) k))))))))) zSkip)))
  (zSeq (zReg fun k => (zDst (.var 2) (vMv (.v 1))) k)
  zRet)))), [.tmp (.v 2)]⟩
theorem G68_ok (fn : Nat → Option Func) (pu : Nat → Bool) (pr : Nat → List AV → Option (Heap → Option (Eff × Acc))) : ZOk ⟨Tryz.tyT, fn, pu, pr⟩ npT F68 (G68 ⟨Tryz.tyT, fn, pu, pr⟩) := ⟨rfl, rfl, rfl, fun cy Y k => by kernel_rfl⟩
noncomputable def F69 : FFn := ⟨134, [2, 1, 10, 0, 3, 8, 12, 11, 9, 13, 15, 14, 16, 17, 18], (.seq (.reg [⟨.mv (.k (.bool true)), (.var 5), none, true, 0, none⟩]) (.seq (.reg [⟨.mv (.k (.bool true)), (.var 8), none, true, 0, none⟩]) (.block 0 (.loop (.block 1 (.seq (.reg [⟨.bin .sub 3 false false (.v 0) (.v 1), .push, none, false, 2, none⟩,
    ⟨.mv (.l 0), (.var 2), none, true, 3, none⟩]) (.seq (.seq (.reg [⟨.bin .leq 3 false true (.v 2) (.k (.int .i64 12)), .push, none, false, 1, none⟩]) (.cond (.l 0) (.seq (.reg [⟨.call 97 [(.v 3), (.v 1), (.v 0)], .push, none, false, 3, (some 0)⟩]) .ret) .skip)) (.seq (.seq (.reg [⟨.bin .eql 3 false true (.v 4) (.k (.int .i64 0)), .push, none, false, 1, none⟩]) (.cond (.l 0) (.seq (.reg [⟨.call 98 [(.v 3), (.v 1), (.v 0)], .push, none, false, 3, (some 0)⟩]) .ret) .skip)) (.seq (.seq (.reg [⟨.un .not (.v 5), .push, none, false, 1, none⟩]) (.cond (.l 0) (.seq (.reg [⟨.call 99 [(.v 3), (.v 1), (.v 0)], .push, none, false, 3, (some 0)⟩]) (.reg [⟨.mv (.v 4), .push, none, true, 0, none⟩,
    ⟨.bin .sub 3 false true (.l 0) (.k (.int .i64 1)), .push, none, false, 1, none⟩,
    ⟨.mv (.l 0), (.var 4), none, true, 2, none⟩])) .skip)) (.seq (.reg [⟨.call 100 [(.v 3), (.v 1), (.v 0)], .push, none, false, 3, (some 0)⟩,
    ⟨.extract (.l 0) 0, .push, none, true, 5, none⟩,
    ⟨.extract (.l 1) 1, .push, none, true, 6, none⟩,
    ⟨.mv (.l 1), (.var 7), none, true, 7, none⟩,
    ⟨.mv (.l 0), (.var 6), none, true, 8, none⟩]) (.seq (.seq (.reg [⟨.bin .eql 136 false true (.v 6) (.k (.int .i64 2)), .push, none, false, 1, none⟩]) (.cond (.l 0) (.seq (.reg [⟨.call 101 [(.v 3), (.v 1), (.v 0)], .push, none, false, 3, (some 0)⟩]) (.seq (.reg [⟨.bin .sub 3 false true (.v 0) (.k (.int .i64 1)), .push, none, false, 1, none⟩,
    ⟨.mv (.v 7), .push, none, true, 2, none⟩,
    ⟨.bin .sub 3 false false (.l 0) (.v 1), .push, none, false, 4, none⟩,
    ⟨.bin .sub 3 false false (.l 2) (.l 0), .push, none, false, 5, none⟩,
    ⟨.mv (.l 0), (.var 7), none, true, 6, none⟩]) (.reg [⟨.mv (.k (.int .i64 1)), (.var 6), none, true, 0, none⟩]))) .skip)) (.seq (.seq (.reg [⟨.mv (.v 8), .push, (some ((.v 5), true)), true, 2, none⟩,
    ⟨.pick (.v 5) (.l 0) (.k (.bool false)), .push, none, true, 3, none⟩,
    ⟨.mv (.v 6), .push, (some ((.l 0), true)), true, 5, none⟩,
    ⟨.bin .eql 136 false true (.l 0) (.k (.int .i64 1)), .push, (some ((.l 1), true)), false, 6, none⟩,
    ⟨.pick (.l 2) (.l 0) (.k (.bool false)), .push, none, true, 7, none⟩]) (.cond (.l 0) (.seq (.reg [⟨.call 102 [(.v 3), (.v 1), (.v 0)], .push, none, false, 3, (some 0)⟩]) (.cond (.l 0) .ret .skip)) .skip)) (.seq (.seq (.dreg 1 [0, 1, 3, 7, 7, 23, 63, 127, 7, 7, 775, 1799, 4095, 8191, 16383] [⟨.bin .gtr 3 false true (.v 1) (.k (.int .i64 0)), .push, none, false, 1, none⟩,
    ⟨.mv (.v 3), .push, (some ((.l 0), true)), true, 3, none⟩,
    ⟨.mv (.v 1), .push, (some ((.l 1), true)), true, 4, none⟩,
    ⟨.bin .sub 3 false true (.l 0) (.k (.int .i64 1)), .push, (some ((.l 2), true)), false, 5, none⟩,
    ⟨.indexAddr 26 (.l 2) (.l 0), .push, (some ((.l 3), true)), true, 6, none⟩,
    ⟨.load 9 (.l 0), .push, (some ((.l 4), true)), true, 7, none⟩,
    ⟨.mv (.v 3), .push, (some ((.l 5), true)), true, 8, none⟩,
    ⟨.mv (.v 7), .push, (some ((.l 6), true)), true, 9, none⟩,
    ⟨.indexAddr 26 (.l 1) (.l 0), .push, (some ((.l 7), true)), true, 10, none⟩,
    ⟨.load 9 (.l 0), .push, (some ((.l 8), true)), true, 11, none⟩,
    ⟨.call 103 [(.l 4), (.l 0)], .push, (some ((.l 9), true)), false, 12, (some 0)⟩,
    ⟨.un .not (.l 0), .push, (some ((.l 10), true)), false, 13, none⟩,
    ⟨.pick (.l 11) (.l 0) (.k (.bool false)), .push, none, true, 14, none⟩]) (.cond (.l 0) (.seq (.reg [⟨.call 104 [(.v 3), (.v 1), (.v 0), (.v 7)], .push, none, false, 4, (some 0)⟩,
    ⟨.mv (.l 0), (.var 9), none, true, 5, none⟩]) (.seq (.reg [⟨.mv (.v 9), (.var 1), none, true, 1, none⟩]) (.exit 1))) .skip)) (.seq (.reg [⟨.call 105 [(.v 3), (.v 1), (.v 0), (.v 7)], .push, none, false, 4, (some 0)⟩,
    ⟨.extract (.l 0) 0, .push, none, true, 6, none⟩,
    ⟨.extract (.l 1) 1, .push, none, true, 7, none⟩,
    ⟨.mv (.l 1), (.var 11), none, true, 8, none⟩,
    ⟨.mv (.l 0), (.var 10), none, true, 9, none⟩]) (.seq (.reg [⟨.mv (.v 10), (.var 8), none, true, 1, none⟩]) (.seq (.reg [⟨.bin .sub 3 false false (.v 11) (.v 1), .push, none, false, 2, none⟩,
    ⟨.bin .sub 3 false false (.v 0) (.v 11), .push, none, false, 5, none⟩,
    ⟨.mv (.l 1), (.var 12), none, true, 6, none⟩,
    ⟨.mv (.l 0), (.var 13), none, true, 7, none⟩]) (.seq (.reg [⟨.bin .quo 3 false true (.v 2) (.k (.int .i64 8)), .push, none, false, 1, none⟩,
    ⟨.mv (.l 0), (.var 14), none, true, 2, none⟩]) (.seq (.reg [⟨.bin .lss 3 false false (.v 12) (.v 13), .push, none, false, 2, none⟩]) (.cond (.l 0) (.seq (.reg [⟨.bin .geq 3 false false (.v 12) (.v 14), .push, none, false, 2, none⟩,
    ⟨.mv (.l 0), (.var 5), none, true, 3, none⟩]) (.seq (.reg [⟨.call 69 [(.v 3), (.v 1), (.v 11), (.v 4)], .push, none, false, 4, (some 0)⟩]) (.reg [⟨.bin .add 3 false true (.v 11) (.k (.int .i64 1)), .push, none, false, 1, none⟩,
    ⟨.mv (.l 0), (.var 1), none, true, 2, none⟩]))) (.seq (.reg [⟨.bin .geq 3 false false (.v 13) (.v 14), .push, none, false, 2, none⟩,
    ⟨.mv (.l 0), (.var 5), none, true, 3, none⟩]) (.seq (.reg [⟨.bin .add 3 false true (.v 11) (.k (.int .i64 1)), .push, none, false, 2, none⟩,
    ⟨.call 69 [(.v 3), (.l 0), (.v 0), (.v 4)], .push, none, false, 5, (some 0)⟩]) (.reg [⟨.mv (.v 11), (.var 0), none, true, 1, none⟩])))))))))))))))))))))), []⟩
noncomputable def G69 (E : Env) : ZFn := ⟨134, [2, 1, 10, 0, 3, 8, 12, 11, 9, 13, 15, 14, 16, 17, 18], fun cy Y fuel =>
  (zSeq (zReg fun k => (zDst (.var 5) (vMv (.k (.bool true)))) k)
  (zSeq (zReg fun k => (zDst (.var 8) (vMv (.k (.bool true)))) k)
  (zBlock 0 (zLoop fuel (zBlock 1 (zSeq (zReg fun k => (zDst .push (vInt E fSub .sub 3 false false (.v 0) (.v 1))) ((zDst (.var 2) (vMv (.l 0))) k))
  (zSeq (zSeq (zReg fun k => (zDst .push (vInt E (fGen .leq) .leq 3 false true (.v 2) (.k (.int .i64 12)))) k)
  (zCond (.l 0) (zSeq (zReg fun k => (zCall (cy Y) 97 [(.v 3), (.v 1), (.v 0)] .push) k)
  zRet) zSkip))
  (zSeq (zSeq (zReg fun k => (zDst .push (vInt E fEql .eql 3 false true (.v 4) (.k (.int .i64 0)))) k)
  (zCond (.l 0) (zSeq (zReg fun k => (zCall (cy Y) 98 [(.v 3), (.v 1), (.v 0)] .push) k)
  zRet) zSkip))
  (zSeq (zSeq (zReg fun k => (zDst .push (vNot (.v 5))) k)
  (zCond (.l 0) (zSeq (zReg fun k => (zCall (cy Y) 99 [(.v 3), (.v 1), (.v 0)] .push) k)
  (zReg fun k => (zDst .push (vMv (.v 4))) ((zDst .push (vInt E fSub .sub 3 false true (.l 0) (.k (.int .i64 1)))) ((zDst (.var 4) (vMv (.l 0))) k)))) zSkip))
  (zSeq (zReg fun k => (zCall (cy Y) 100 [(.v 3), (.v 1), (.v 0)] .push) ((zDst .push (vExtract 0 (.l 0))) ((zDst .push (vExtract 1 (.l 1))) ((zDst (.var 7) (vMv (.l 1))) ((zDst (.var 6) (vMv (.l 0))) k)))))
  (zSeq (zSeq (zReg fun k => (zDst .push (vInt E fEql .eql 136 false true (.v 6) (.k (.int .i64 2)))) k)
  (zCond (.l 0) (zSeq (zReg fun k => (zCall (cy Y) 101 [(.v 3), (.v 1), (.v 0)] .push) k)
  (zSeq (zReg fun k => (zDst .push (vInt E fSub .sub 3 false true (.v 0) (.k (.int .i64 1)))) ((zDst .push (vMv (.v 7))) ((zDst .push (vInt E fSub .sub 3 false false (.l 0) (.v 1))) ((zDst .push (vInt E fSub .sub 3 false false (.l 2) (.l 0))) ((zDst (.var 7) (vMv (.l 0))) k)))))
  (zReg fun k => (zDst (.var 6) (vMv (.k (.int .i64 1)))) k))) zSkip))
  (zSeq (zSeq (zReg fun k => (zG (.v 5) true .push (zDst .push (vMv (.v 8)))) ((zDst .push (vPick (.v 5) (.l 0) (.k (.bool false)))) ((zG (.l 0) true .push (zDst .push (vMv (.v 6)))) ((zG (.l 1) true .push (zDst .push (vInt E fEql .eql 136 false true (.l 0) (.k (.int .i64 1))))) ((zDst .push (vPick (.l 2) (.l 0) (.k (.bool false)))) k)))))
  (zCond (.l 0) (zSeq (zReg fun k => (zCall (cy Y) 102 [(.v 3), (.v 1), (.v 0)] .push) k)
  (zCond (.l 0) zRet zSkip)) zSkip))
  (zSeq (zSeq (zDreg 1 fun n0 k => (fun k sp => zDst .push (vInt E fGtr .gtr 3 false true (.v 1) (.k (.int .i64 0))) (k sp)) ((zGD (.l 0) true .push (fun k sp => zDst .push (vMv (.v 3)) (k sp))) ((zGD (.l 1) true .push (fun k sp => zDst .push (vMv (.v 1)) (k sp))) ((zGD (.l 2) true .push (fun k sp => zDst .push (vInt E fSub .sub 3 false true (.l 0) (.k (.int .i64 1))) (k sp))) ((zGD (.l 3) true .push (fun k sp => zDst .push (vIndexAddr 1 (.l 2) (.l 0)) (k sp))) ((zGD (.l 4) true .push (zDstWD [0, 1, 3, 7, 7, 23, 63, 127, 7, 7, 775, 1799, 4095, 8191, 16383] 7 .push (wLoad 1 false (.l 0)))) ((zGD (.l 5) true .push (fun k sp => zDst .push (vMv (.v 3)) (k sp))) ((zGD (.l 6) true .push (fun k sp => zDst .push (vMv (.v 7)) (k sp))) ((zGD (.l 7) true .push (fun k sp => zDst .push (vIndexAddr 1 (.l 1) (.l 0)) (k sp))) ((zGD (.l 8) true .push (zDstWD [0, 1, 3, 7, 7, 23, 63, 127, 7, 7, 775, 1799, 4095, 8191, 16383] 11 .push (wLoad 1 false (.l 0)))) ((zGD (.l 9) true .push (zCallD (cy Y) [0, 1, 3, 7, 7, 23, 63, 127, 7, 7, 775, 1799, 4095, 8191, 16383] 12 103 [(.l 4), (.l 0)] .push)) ((zGD (.l 10) true .push (fun k sp => zDst .push (vNot (.l 0)) (k sp))) ((fun k sp => zDst .push (vPick (.l 11) (.l 0) (.k (.bool false))) (k sp)) k)))))))))))))
  (zCond (.l 0) (zSeq (zReg fun k => (zCall (cy Y) 104 [(.v 3), (.v 1), (.v 0), (.v 7)] .push) ((zDst (.var 9) (vMv (.l 0))) k))
  (zSeq (zReg fun k => (zDst (.var 1) (vMv (.v 9))) k)
  (zExit 1))) zSkip))
  (zSeq (zReg fun k => (zCall (cy Y) 105 [(.v 3), (.v 1), (.v 0), (.v 7)] .push) ((zDst .push (vExtract 0 (.l 0))) ((zDst .push (vExtract 1 (.l 1))) ((zDst (.var 11) (vMv (.l 1))) ((zDst (.var 10) (vMv (.l 0))) k)))))
  (zSeq (zReg fun k => (zDst (.var 8) (vMv (.v 10))) k)
  (zSeq (zReg fun k => (zDst .push (vInt E fSub .sub 3 false false (.v 11) (.v 1))) ((zDst .push (vInt E fSub .sub 3 false false (.v 0) (.v 11))) ((zDst (.var 12) (vMv (.l 1))) ((zDst (.var 13) (vMv (.l 0))) k))))
  (zSeq (zReg fun k => (zDst .push (vInt E (fGen .quo) .quo 3 false true (.v 2) (.k (.int .i64 8)))) ((zDst (.var 14) (vMv (.l 0))) k))
  (zSeq (zReg fun k => (zDst .push (vInt E fLss .lss 3 false false (.v 12) (.v 13))) k)
  (zCond (.l 0) (zSeq (zReg fun k => (zDst .push (vInt E (fGen .geq) .geq 3 false false (.v 12) (.v 14))) ((zDst (.var 5) (vMv (.l 0))) k))
  (zSeq (zReg fun k => (zCall (cy Y) 69 [(.v 3), (.v 1), (.v 11), (.v 4)] .push) k)
  (zReg fun k => (zDst .push (vInt E fAdd .add 3 false true (.v 11) (.k (.int .i64 1)))) ((zDst (.var 1) (vMv (.l 0))) k)))) (zSeq (zReg fun k => (zDst .push (vInt E (fGen .geq) .geq 3 false false (.v 13) (.v 14))) ((zDst (.var 5) (vMv (.l 0))) k))
  (zSeq (zReg fun k => (zDst .push (vInt E fAdd .add 3 false true (.v 11) (.k (.int .i64 1)))) ((zCall (cy Y) 69 [(.v 3), (.l 0), (.v 0), (.v 4)] .push) k))
  (zReg fun k => (zDst (.var 0) (vMv (.v 11))) k)))))))))))))))))))))), []⟩
theorem G69_ok (fn : Nat → Option Func) (pu : Nat → Bool) (pr : Nat → List AV → Option (Heap → Option (Eff × Acc))) : ZOk ⟨Tryz.tyT, fn, pu, pr⟩ npT F69 (G69 ⟨Tryz.tyT, fn, pu, pr⟩) := ⟨rfl, rfl, rfl, fun cy Y k => by kernel_rfl⟩
noncomputable def F70 : FFn := ⟨8, [0, 2], (.seq (.reg [⟨.mv (.k (.int .i64 0)), (.var 1), none, true, 0, none⟩]) (.seq (.cond (.k (.bool false)) (.seq (.reg [⟨.conv 47 145 (.v 0), .push, none, false, 1, none⟩,
    ⟨.call 106 [(.l 0)], .push, none, false, 2, (some 0)⟩,
    ⟨.mv (.l 0), (.var 1), none, true, 3, none⟩]) .ret) .skip) (.seq (.reg [⟨.call 107 [(.v 0)], .push, none, false, 1, (some 0)⟩,
    ⟨.mv (.l 0), (.var 1), none, true, 2, none⟩]) .ret))), [.tmp (.v 1)]⟩
noncomputable def G70 (E : Env) : ZFn := ⟨8, [0, 2], fun cy Y fuel =>
  (zSeq (zReg fun k => (zDst (.var 1) (vMv (.k (.int .i64 0)))) k)
  (zSeq (zCond (.k (.bool false)) (zSeq (zReg fun k => (zDst .push (vConv .u32 (.v 0))) ((zCall (cy Y) 106 [(.l 0)] .push) ((zDst (.var 1) (vMv (.l 0))) k)))
  zRet) zSkip)
  (zSeq (zReg fun k => (zCall (cy Y) 107 [(.v 0)] .push) ((zDst (.var 1) (vMv (.l 0))) k))
  zRet))), [.tmp (.v 1)]⟩
theorem G70_ok (fn : Nat → Option Func) (pu : Nat → Bool) (pr : Nat → List AV → Option (Heap → Option (Eff × Acc))) : ZOk ⟨Tryz.tyT, fn, pu, pr⟩ npT F70 (G70 ⟨Tryz.tyT, fn, pu, pr⟩) := ⟨rfl, rfl, rfl, fun cy Y k => by kernel_rfl⟩
noncomputable def F71 : FFn := ⟨16, [1, 7, 6, 5, 0, 4], (.seq (.reg [⟨.load 26 (.v 0), (.var 3), none, true, 0, none⟩,
    ⟨.len 26 (.v 3), (.var 2), none, false, 1, none⟩,
    ⟨.mv (.k (.int .i64 0)), (.var 1), none, true, 2, none⟩]) (.block 0 (.loop (.seq (.reg [⟨.bin .lss 3 false false (.v 1) (.v 2), .push, none, false, 0, none⟩]) (.seq (.cond (.l 0) .skip (.exit 0)) (.seq (.block 1 (.seq (.reg [⟨.indexAddr 26 (.v 3) (.v 1), .push, none, true, 0, none⟩,
    ⟨.load 9 (.l 0), .push, none, true, 1, none⟩,
    ⟨.mv (.l 0), (.var 5), none, true, 2, none⟩]) (.seq (.reg [⟨.callv (.v 4) [(.v 5)], .push, none, false, 2, (some 0)⟩,
    ⟨.un .not (.l 0), .push, none, false, 3, none⟩]) (.cond (.l 0) .ret .skip)))) (.reg [⟨.bin .add 3 false true (.v 1) (.k (.int .i64 1)), .push, none, false, 0, none⟩,
    ⟨.mv (.l 0), (.var 1), none, true, 1, none⟩]))))))), []⟩
noncomputable def G71 (E : Env) : ZFn := ⟨16, [1, 7, 6, 5, 0, 4], fun cy Y fuel =>
  (zSeq (zReg fun k => (zDstW (.var 3) (wLoad 1 false (.v 0))) ((zDst (.var 2) (vLenL (.v 3))) ((zDst (.var 1) (vMv (.k (.int .i64 0)))) k)))
  (zBlock 0 (zLoop fuel (zSeq (zReg fun k => (zDst .push (vInt E fLss .lss 3 false false (.v 1) (.v 2))) k)
  (zSeq (zCond (.l 0) zSkip (zExit 0))
  (zSeq (zBlock 1 (zSeq (zReg fun k => (zDst .push (vIndexAddr 1 (.v 3) (.v 1))) ((zDstW .push (wLoad 1 false (.l 0))) ((zDst (.var 5) (vMv (.l 0))) k)))
  (zSeq (zReg fun k => (zStep E (cy Y) ⟨.callv (.v 4) [(.v 5)], .push, none, false, 2, (some 0)⟩) ((zDst .push (vNot (.l 0))) k))
  (zCond (.l 0) zRet zSkip))))
  (zReg fun k => (zDst .push (vInt E fAdd .add 3 false true (.v 1) (.k (.int .i64 1)))) ((zDst (.var 1) (vMv (.l 0))) k)))))))), []⟩
theorem G71_ok (fn : Nat → Option Func) (pu : Nat → Bool) (pr : Nat → List AV → Option (Heap → Option (Eff × Acc))) : ZOk ⟨Tryz.tyT, fn, pu, pr⟩ npT F71 (G71 ⟨Tryz.tyT, fn, pu, pr⟩) := ⟨rfl, rfl, rfl, fun cy Y k => by kernel_rfl⟩
noncomputable def F72 : FFn := ⟨16, [1, 7, 6, 5, 0, 4], (.seq (.reg [⟨.load 27 (.v 0), (.var 3), none, true, 0, none⟩,
    ⟨.len 27 (.v 3), (.var 2), none, false, 1, none⟩,
    ⟨.mv (.k (.int .i64 0)), (.var 1), none, true, 2, none⟩]) (.block 0 (.loop (.seq (.reg [⟨.bin .lss 3 false false (.v 1) (.v 2), .push, none, false, 0, none⟩]) (.seq (.cond (.l 0) .skip (.exit 0)) (.seq (.block 1 (.seq (.reg [⟨.indexAddr 27 (.v 3) (.v 1), .push, none, true, 0, none⟩,
    ⟨.load 58 (.l 0), .push, none, true, 1, none⟩,
    ⟨.mv (.l 0), (.var 5), none, true, 2, none⟩]) (.seq (.reg [⟨.callv (.v 4) [(.v 5)], .push, none, false, 2, (some 0)⟩,
    ⟨.un .not (.l 0), .push, none, false, 3, none⟩]) (.cond (.l 0) .ret .skip)))) (.reg [⟨.bin .add 3 false true (.v 1) (.k (.int .i64 1)), .push, none, false, 0, none⟩,
    ⟨.mv (.l 0), (.var 1), none, true, 1, none⟩]))))))), []⟩
noncomputable def G72 (E : Env) : ZFn := ⟨16, [1, 7, 6, 5, 0, 4], fun cy Y fuel =>
  (zSeq (zReg fun k => (zDstW (.var 3) (wLoad 1 false (.v 0))) ((zDst (.var 2) (vLenL (.v 3))) ((zDst (.var 1) (vMv (.k (.int .i64 0)))) k)))
  (zBlock 0 (zLoop fuel (zSeq (zReg fun k => (zDst .push (vInt E fLss .lss 3 false false (.v 1) (.v 2))) k)
  (zSeq (zCond (.l 0) zSkip (zExit 0))
  (zSeq (zBlock 1 (zSeq (zReg fun k => (zDst .push (vIndexAddr 1 (.v 3) (.v 1))) ((zDstW .push (wLoad 1 false (.l 0))) ((zDst (.var 5) (vMv (.l 0))) k)))
  (zSeq (zReg fun k => (zStep E (cy Y) ⟨.callv (.v 4) [(.v 5)], .push, none, false, 2, (some 0)⟩) ((zDst .push (vNot (.l 0))) k))
  (zCond (.l 0) zRet zSkip))))
  (zReg fun k => (zDst .push (vInt E fAdd .add 3 false true (.v 1) (.k (.int .i64 1)))) ((zDst (.var 1) (vMv (.l 0))) k)))))))), []⟩
theorem G72_ok (fn : Nat → Option Func) (pu : Nat → Bool) (pr : Nat → List AV → Option (Heap → Option (Eff × Acc))) : ZOk ⟨Tryz.tyT, fn, pu, pr⟩ npT F72 (G72 ⟨Tryz.tyT, fn, pu, pr⟩) := ⟨rfl, rfl, rfl, fun cy Y k => by kernel_rfl⟩
noncomputable def F73 : FFn := ⟨20, [0, 1, 3, 2, 4], (.seq (.reg [⟨.box 24 (.v 0), (.var 3), none, false, 0, (some 0)⟩,
    ⟨.box 3 (.v 1), (.var 2), none, false, 1, (some 1)⟩,
    ⟨.mv (.k (.bool false)), (.var 4), none, true, 2, none⟩]) (.seq (.seq (.dreg 1 [0, 1, 3, 7, 15, 31, 7, 71, 199, 511, 1023] [⟨.load 3 (.v 2), .push, none, true, 0, none⟩,
    ⟨.bin .eql 3 false true (.l 0) (.k (.int .i64 0)), .push, none, false, 1, none⟩,
    ⟨.fieldAddr 24 (.v 3) 0, .push, (some ((.l 0), false)), true, 3, none⟩,
    ⟨.load 3 (.l 0), .push, (some ((.l 1), false)), true, 4, none⟩,
    ⟨.call 108 [(.l 0)], .push, (some ((.l 2), false)), false, 5, (some 0)⟩,
    ⟨.fieldAddr 24 (.v 3) 1, .push, (some ((.l 3), false)), true, 6, none⟩,
    ⟨.load 22 (.l 0), .push, (some ((.l 4), false)), true, 7, none⟩,
    ⟨.len 22 (.l 0), .push, (some ((.l 5), false)), false, 8, none⟩,
    ⟨.bin .neq 3 false false (.l 3) (.l 0), .push, (some ((.l 6), false)), false, 9, none⟩,
    ⟨.pick (.l 7) (.k (.bool true)) (.l 0), .push, none, true, 10, none⟩]) (.cond (.l 0) (.seq (.reg [⟨.mv (.k (.bool false)), (.var 4), none, true, 0, none⟩]) .ret) .skip)) (.seq (.reg [⟨.fieldAddr 24 (.v 3) 1, .push, none, true, 0, none⟩,
    ⟨.load 22 (.l 0), .push, none, true, 1, none⟩,
    ⟨.mkFunc 110 [(.v 2)], .push, none, false, 2, none⟩,
    ⟨.call 109 [(.l 1), (.l 0)], .push, none, false, 3, (some 0)⟩,
    ⟨.mv (.l 0), (.var 4), none, true, 4, none⟩]) .ret))), [.tmp (.v 4)]⟩
noncomputable def G73 (E : Env) : ZFn := ⟨20, [0, 1, 3, 2, 4], fun cy Y fuel =>
  (zSeq (zReg fun k => (zStep E (cy Y) ⟨.box 24 (.v 0), (.var 3), none, false, 0, (some 0)⟩) ((zStep E (cy Y) ⟨.box 3 (.v 1), (.var 2), none, false, 1, (some 1)⟩) ((zDst (.var 4) (vMv (.k (.bool false)))) k)))
  (zSeq (zSeq (zDreg 1 fun n0 k => (zDstWD [0, 1, 3, 7, 15, 31, 7, 71, 199, 511, 1023] 0 .push (wLoad 1 false (.v 2))) ((fun k sp => zDst .push (vInt E fEql .eql 3 false true (.l 0) (.k (.int .i64 0))) (k sp)) ((zGD (.l 0) false .push (fun k sp => zDst .push (vFieldAddr 0 (.v 3)) (k sp))) ((zGD (.l 1) false .push (zDstWD [0, 1, 3, 7, 15, 31, 7, 71, 199, 511, 1023] 4 .push (wLoad 1 false (.l 0)))) ((zGD (.l 2) false .push (zCallD (cy Y) [0, 1, 3, 7, 15, 31, 7, 71, 199, 511, 1023] 5 108 [(.l 0)] .push)) ((zGD (.l 3) false .push (fun k sp => zDst .push (vFieldAddr 1 (.v 3)) (k sp))) ((zGD (.l 4) false .push (zDstWD [0, 1, 3, 7, 15, 31, 7, 71, 199, 511, 1023] 7 .push (wLoad 1 false (.l 0)))) ((zGD (.l 5) false .push (fun k sp => zDst .push (vLenL (.l 0)) (k sp))) ((zGD (.l 6) false .push (fun k sp => zDst .push (vInt E fNeq .neq 3 false false (.l 3) (.l 0)) (k sp))) ((fun k sp => zDst .push (vPick (.l 7) (.k (.bool true)) (.l 0)) (k sp)) k))))))))))
  (zCond (.l 0) (zSeq (zReg fun k => (zDst (.var 4) (vMv (.k (.bool false)))) k)
  zRet) zSkip))
  (zSeq (zReg fun k => (zDst .push (vFieldAddr 1 (.v 3))) ((zDstW .push (wLoad 1 false (.l 0))) ((zStep E (cy Y) ⟨.mkFunc 110 [(.v 2)], .push, none, false, 2, none⟩) ((zCall (cy Y) 109 [(.l 1), (.l 0)] .push) ((zDst (.var 4) (vMv (.l 0))) k)))))
  zRet))), [.tmp (.v 4)]⟩
theorem G73_ok (fn : Nat → Option Func) (pu : Nat → Bool) (pr : Nat → List AV → Option (Heap → Option (Eff × Acc))) : ZOk ⟨Tryz.tyT, fn, pu, pr⟩ npT F73 (G73 ⟨Tryz.tyT, fn, pu, pr⟩) := ⟨rfl, rfl, rfl, fun cy Y k => by kernel_rfl⟩
noncomputable def F74 : FFn := ⟨87, [1, 0, 5, 3, 6, 7, 8, 4], (.seq (.reg [⟨.box 30 (.v 0), (.var 3), none, false, 0, (some 0)⟩,
    ⟨.mv (.k (.bool false)), (.var 7), none, true, 1, none⟩]) (.seq (.reg [⟨.bin .eql 3 false true (.v 1) (.k (.int .i64 1)), .push, none, false, 1, none⟩,
    ⟨.mv (.v 1), .push, (some ((.l 0), false)), true, 3, none⟩,
    ⟨.bin .eql 3 false true (.l 0) (.k (.int .i64 2)), .push, (some ((.l 1), false)), false, 4, none⟩,
    ⟨.pick (.l 2) (.k (.bool true)) (.l 0), .push, none, true, 5, none⟩,
    ⟨.mv (.v 1), .push, (some ((.l 0), false)), true, 7, none⟩,
    ⟨.bin .eql 3 false true (.l 0) (.k (.int .i64 6)), .push, (some ((.l 1), false)), false, 8, none⟩,
    ⟨.pick (.l 2) (.k (.bool true)) (.l 0), .push, none, true, 9, none⟩,
    ⟨.mv (.l 0), (.var 2), none, true, 10, none⟩]) (.seq (.reg [⟨.bin .eql 3 false true (.v 1) (.k (.int .i64 3)), .push, none, false, 1, none⟩,
    ⟨.mv (.v 1), .push, (some ((.l 0), false)), true, 3, none⟩,
    ⟨.bin .eql 3 false true (.l 0) (.k (.int .i64 4)), .push, (some ((.l 1), false)), false, 4, none⟩,
    ⟨.pick (.l 2) (.k (.bool true)) (.l 0), .push, none, true, 5, none⟩,
    ⟨.mv (.v 1), .push, (some ((.l 0), false)), true, 7, none⟩,
    ⟨.bin .eql 3 false true (.l 0) (.k (.int .i64 6)), .push, (some ((.l 1), false)), false, 8, none⟩,
    ⟨.pick (.l 2) (.k (.bool true)) (.l 0), .push, none, true, 9, none⟩,
    ⟨.mv (.l 0), (.var 4), none, true, 10, none⟩]) (.seq (.reg [⟨.bin .eql 3 false true (.v 1) (.k (.int .i64 7)), .push, none, false, 1, none⟩,
    ⟨.mv (.v 1), .push, (some ((.l 0), false)), true, 3, none⟩,
    ⟨.bin .eql 3 false true (.l 0) (.k (.int .i64 8)), .push, (some ((.l 1), false)), false, 4, none⟩,
    ⟨.pick (.l 2) (.k (.bool true)) (.l 0), .push, none, true, 5, none⟩,
    ⟨.mv (.l 0), (.var 5), none, true, 6, none⟩]) (.seq (.reg [⟨.bin .eql 3 false true (.v 1) (.k (.int .i64 4)), .push, none, false, 1, none⟩,
    ⟨.mv (.v 1), .push, (some ((.l 0), false)), true, 3, none⟩,
    ⟨.bin .eql 3 false true (.l 0) (.k (.int .i64 5)), .push, (some ((.l 1), false)), false, 4, none⟩,
    ⟨.pick (.l 2) (.k (.bool true)) (.l 0), .push, none, true, 5, none⟩,
    ⟨.mv (.v 1), .push, (some ((.l 0), false)), true, 7, none⟩,
    ⟨.bin .eql 3 false true (.l 0) (.k (.int .i64 8)), .push, (some ((.l 1), false)), false, 8, none⟩,
    ⟨.pick (.l 2) (.k (.bool true)) (.l 0), .push, none, true, 9, none⟩,
    ⟨.mv (.l 0), (.var 6), none, true, 10, none⟩]) (.seq (.reg [⟨.fieldAddr 30 (.v 3) 0, .push, (some ((.v 2), false)), true, 2, none⟩,
    ⟨.load 25 (.l 0), .push, (some ((.v 2), false)), true, 3, none⟩,
    ⟨.bin .eql 25 false true (.l 0) (.k (.int .u64 0)), .push, (some ((.v 2), false)), false, 4, none⟩,
    ⟨.pick (.v 2) (.k (.bool true)) (.l 0), .push, none, true, 5, none⟩,
    ⟨.mv (.v 1), .push, (some ((.l 0), true)), true, 7, none⟩,
    ⟨.bin .eql 3 false true (.l 0) (.k (.int .i64 6)), .push, (some ((.l 1), true)), false, 8, none⟩,
    ⟨.mv (.l 0), .push, (some ((.l 2), true)), true, 9, none⟩,
    ⟨.fieldAddr 30 (.v 3) 1, .push, (some ((.l 0), false)), true, 10, none⟩,
    ⟨.load 25 (.l 0), .push, (some ((.l 1), false)), true, 11, none⟩,
    ⟨.bin .eql 25 false true (.l 0) (.k (.int .u64 0)), .push, (some ((.l 2), false)), false, 12, none⟩,
    ⟨.pick (.l 3) (.k (.bool true)) (.l 0), .push, (some ((.l 6), true)), true, 13, none⟩,
    ⟨.pick (.l 7) (.l 0) (.k (.bool false)), .push, none, true, 14, none⟩,
    ⟨.mv (.v 4), .push, (some ((.l 0), true)), true, 16, none⟩,
    ⟨.mv (.l 0), .push, (some ((.l 1), true)), true, 17, none⟩,
    ⟨.fieldAddr 30 (.v 3) 2, .push, (some ((.l 0), false)), true, 18, none⟩,
    ⟨.load 26 (.l 0), .push, (some ((.l 1), false)), true, 19, none⟩,
    ⟨.len 26 (.l 0), .push, (some ((.l 2), false)), false, 20, none⟩,
    ⟨.bin .eql 3 false true (.l 0) (.k (.int .i64 0)), .push, (some ((.l 3), false)), false, 21, none⟩,
    ⟨.pick (.l 4) (.k (.bool true)) (.l 0), .push, (some ((.l 6), true)), true, 22, none⟩,
    ⟨.pick (.l 7) (.l 0) (.k (.bool false)), .push, none, true, 23, none⟩,
    ⟨.mv (.v 5), .push, (some ((.l 0), true)), true, 25, none⟩,
    ⟨.mv (.l 0), .push, (some ((.l 1), true)), true, 26, none⟩,
    ⟨.fieldAddr 30 (.v 3) 3, .push, (some ((.l 0), false)), true, 27, none⟩,
    ⟨.load 27 (.l 0), .push, (some ((.l 1), false)), true, 28, none⟩,
    ⟨.len 27 (.l 0), .push, (some ((.l 2), false)), false, 29, none⟩,
    ⟨.bin .eql 3 false true (.l 0) (.k (.int .i64 0)), .push, (some ((.l 3), false)), false, 30, none⟩,
    ⟨.pick (.l 4) (.k (.bool true)) (.l 0), .push, (some ((.l 6), true)), true, 31, none⟩,
    ⟨.pick (.l 7) (.l 0) (.k (.bool false)), .push, none, true, 32, none⟩,
    ⟨.mv (.v 6), .push, (some ((.l 0), true)), true, 34, none⟩,
    ⟨.mv (.l 0), .push, (some ((.l 1), true)), true, 35, none⟩,
    ⟨.fieldAddr 30 (.v 3) 4, .push, (some ((.l 0), false)), true, 36, none⟩,
    ⟨.load 28 (.l 0), .push, (some ((.l 1), false)), true, 37, none⟩,
    ⟨.len 28 (.l 0), .push, (some ((.l 2), false)), false, 38, none⟩,
    ⟨.bin .eql 3 false true (.l 0) (.k (.int .i64 0)), .push, (some ((.l 3), false)), false, 39, none⟩,
    ⟨.pick (.l 4) (.k (.bool true)) (.l 0), .push, (some ((.l 6), true)), true, 40, none⟩,
    ⟨.pick (.l 7) (.l 0) (.k (.bool false)), .push, none, true, 41, none⟩,
    ⟨.mv (.l 0), (.var 7), none, true, 42, none⟩]) .ret)))))), [.tmp (.v 7)]⟩
noncomputable def G74 (E : Env) : ZFn := ⟨87, [1, 0, 5, 3, 6, 7, 8, 4], fun cy Y fuel =>
  (zSeq (zReg fun k => (zStep E (cy Y) ⟨.box 30 (.v 0), (.var 3), none, false, 0, (some 0)⟩) ((zDst (.var 7) (vMv (.k (.bool false)))) k))
  (zSeq (zReg fun k => (zDst .push (vInt E fEql .eql 3 false true (.v 1) (.k (.int .i64 1)))) ((zG (.l 0) false .push (zDst .push (vMv (.v 1)))) ((zG (.l 1) false .push (zDst .push (vInt E fEql .eql 3 false true (.l 0) (.k (.int .i64 2))))) ((zDst .push (vPick (.l 2) (.k (.bool true)) (.l 0))) ((zG (.l 0) false .push (zDst .push (vMv (.v 1)))) ((zG (.l 1) false .push (zDst .push (vInt E fEql .eql 3 false true (.l 0) (.k (.int .i64 6))))) ((zDst .push (vPick (.l 2) (.k (.bool true)) (.l 0))) ((zDst (.var 2) (vMv (.l 0))) k))))))))
  (zSeq (zReg fun k => (zDst .push (vInt E fEql .eql 3 false true (.v 1) (.k (.int .i64 3)))) ((zG (.l 0) false .push (zDst .push (vMv (.v 1)))) ((zG (.l 1) false .push (zDst .push (vInt E fEql .eql 3 false true (.l 0) (.k (.int .i64 4))))) ((zDst .push (vPick (.l 2) (.k (.bool true)) (.l 0))) ((zG (.l 0) false .push (zDst .push (vMv (.v 1)))) ((zG (.l 1) false .push (zDst .push (vInt E fEql .eql 3 false true (.l 0) (.k (.int .i64 6))))) ((zDst .push (vPick (.l 2) (.k (.bool true)) (.l 0))) ((zDst (.var 4) (vMv (.l 0))) k))))))))
  (zSeq (zReg fun k => (zDst .push (vInt E fEql .eql 3 false true (.v 1) (.k (.int .i64 7)))) ((zG (.l 0) false .push (zDst .push (vMv (.v 1)))) ((zG (.l 1) false .push (zDst .push (vInt E fEql .eql 3 false true (.l 0) (.k (.int .i64 8))))) ((zDst .push (vPick (.l 2) (.k (.bool true)) (.l 0))) ((zDst (.var 5) (vMv (.l 0))) k)))))
  (zSeq (zReg fun k => (zDst .push (vInt E fEql .eql 3 false true (.v 1) (.k (.int .i64 4)))) ((zG (.l 0) false .push (zDst .push (vMv (.v 1)))) ((zG (.l 1) false .push (zDst .push (vInt E fEql .eql 3 false true (.l 0) (.k (.int .i64 5))))) ((zDst .push (vPick (.l 2) (.k (.bool true)) (.l 0))) ((zG (.l 0) false .push (zDst .push (vMv (.v 1)))) ((zG (.l 1) false .push (zDst .push (vInt E fEql .eql 3 false true (.l 0) (.k (.int .i64 8))))) ((zDst .push (vPick (.l 2) (.k (.bool true)) (.l 0))) ((zDst (.var 6) (vMv (.l 0))) k))))))))
  (zSeq (zReg fun k => (zG (.v 2) false .push (zDst .push (vFieldAddr 0 (.v 3)))) ((zG (.v 2) false .push (zDstW .push (wLoad 1 false (.l 0)))) ((zG (.v 2) false .push (zDst .push (vInt E fEql .eql 25 false true (.l 0) (.k (.int .u64 0))))) ((zDst .push (vPick (.v 2) (.k (.bool true)) (.l 0))) ((zG (.l 0) true .push (zDst .push (vMv (.v 1)))) ((zG (.l 1) true .push (zDst .push (vInt E fEql .eql 3 false true (.l 0) (.k (.int .i64 6))))) ((zG (.l 2) true .push (zDst .push (vMv (.l 0)))) ((zG (.l 0) false .push (zDst .push (vFieldAddr 1 (.v 3)))) ((zG (.l 1) false .push (zDstW .push (wLoad 1 false (.l 0)))) ((zG (.l 2) false .push (zDst .push (vInt E fEql .eql 25 false true (.l 0) (.k (.int .u64 0))))) ((zG (.l 6) true .push (zDst .push (vPick (.l 3) (.k (.bool true)) (.l 0)))) ((zDst .push (vPick (.l 7) (.l 0) (.k (.bool false)))) ((zG (.l 0) true .push (zDst .push (vMv (.v 4)))) ((zG (.l 1) true .push (zDst .push (vMv (.l 0)))) ((zG (.l 0) false .push (zDst .push (vFieldAddr 2 (.v 3)))) ((zG (.l 1) false .push (zDstW .push (wLoad 1 false (.l 0)))) ((zG (.l 2) false .push (zDst .push (vLenL (.l 0)))) ((zG (.l 3) false .push (zDst .push (vInt E fEql .eql 3 false true (.l 0) (.k (.int .i64 0))))) ((zG (.l 6) true .push (zDst .push (vPick (.l 4) (.k (.bool true)) (.l 0)))) ((zDst .push (vPick (.l 7) (.l 0) (.k (.bool false)))) ((zG (.l 0) true .push (zDst .push (vMv (.v 5)))) ((zG (.l 1) true .push (zDst .push (vMv (.l 0)))) ((zG (.l 0) false .push (zDst .push (vFieldAddr 3 (.v 3)))) ((zG (.l 1) false .push (zDstW .push (wLoad 1 false (.l 0)))) ((zG (.l 2) false .push (zDst .push (vLenL (.l 0)))) ((zG (.l 3) false .push (zDst .push (vInt E fEql .eql 3 false true (.l 0) (.k (.int .i64 0))))) ((zG (.l 6) true .push (zDst .push (vPick (.l 4) (.k (.bool true)) (.l 0)))) ((zDst .push (vPick (.l 7) (.l 0) (.k (.bool false)))) ((zG (.l 0) true .push (zDst .push (vMv (.v 6)))) ((zG (.l 1) true .push (zDst .push (vMv (.l 0)))) ((zG (.l 0) false .push (zDst .push (vFieldAddr 4 (.v 3)))) ((zG (.l 1) false .push (zDstW .push (wLoad 1 false (.l 0)))) ((zG (.l 2) false .push (zDst .push (vLenL (.l 0)))) ((zG (.l 3) false .push (zDst .push (vInt E fEql .eql 3 false true (.l 0) (.k (.int .i64 0))))) ((zG (.l 6) true .push (zDst .push (vPick (.l 4) (.k (.bool true)) (.l 0)))) ((zDst .push (vPick (.l 7) (.l 0) (.k (.bool false)))) ((zDst (.var 7) (vMv (.l 0))) k)))))))))))))))))))))))))))))))))))))
  zRet)))))), [.tmp (.v 7)]⟩
theorem G74_ok (fn : Nat → Option Func) (pu : Nat → Bool) (pr : Nat → List AV → Option (Heap → Option (Eff × Acc))) : ZOk ⟨Tryz.tyT, fn, pu, pr⟩ npT F74 (G74 ⟨Tryz.tyT, fn, pu, pr⟩) := ⟨rfl, rfl, rfl, fun cy Y k => by kernel_rfl⟩
noncomputable def F75 : FFn := ⟨10, [0, 1, 2, 3], (.seq (.reg [⟨.box 30 (.v 0), (.var 2), none, false, 0, (some 0)⟩,
    ⟨.mv (.k (.bool false)), (.var 3), none, true, 1, none⟩]) (.seq (.dreg 1 [0, 1, 3, 7, 0, 31, 63] [⟨.fieldAddr 24 (.v 1) 1, .push, none, true, 0, none⟩,
    ⟨.load 22 (.l 0), .push, none, true, 1, none⟩,
    ⟨.indexAddr 22 (.l 0) (.k (.int .i64 0)), .push, none, true, 2, none⟩,
    ⟨.load 24 (.l 0), .push, none, true, 3, none⟩,
    ⟨.load 30 (.v 2), .push, none, true, 4, none⟩,
    ⟨.call 44 [(.l 1), (.l 0)], .push, none, false, 5, (some 0)⟩,
    ⟨.mv (.l 0), (.var 3), none, true, 6, none⟩]) .ret)), [.tmp (.v 3)]⟩
noncomputable def G75 (E : Env) : ZFn := ⟨10, [0, 1, 2, 3], fun cy Y fuel =>
  (zSeq (zReg fun k => (zStep E (cy Y) ⟨.box 30 (.v 0), (.var 2), none, false, 0, (some 0)⟩) ((zDst (.var 3) (vMv (.k (.bool false)))) k))
  (zSeq (zDreg 1 fun n0 k => (fun k sp => zDst .push (vFieldAddr 1 (.v 1)) (k sp)) ((zDstWD [0, 1, 3, 7, 0, 31, 63] 1 .push (wLoad 1 false (.l 0))) ((fun k sp => zDst .push (vIndexAddr 2 (.l 0) (.k (.int .i64 0))) (k sp)) ((zDstWD [0, 1, 3, 7, 0, 31, 63] 3 .push (wLoad 2 true (.l 0))) ((zDstWD [0, 1, 3, 7, 0, 31, 63] 4 .push (wLoad 5 true (.v 2))) ((zCallD (cy Y) [0, 1, 3, 7, 0, 31, 63] 5 44 [(.l 1), (.l 0)] .push) ((fun k sp => zDst (.var 3) (vMv (.l 0)) (k sp)) k)))))))
  zRet)), [.tmp (.v 3)]⟩
theorem G75_ok (fn : Nat → Option Func) (pu : Nat → Bool) (pr : Nat → List AV → Option (Heap → Option (Eff × Acc))) : ZOk ⟨Tryz.tyT, fn, pu, pr⟩ npT F75 (G75 ⟨Tryz.tyT, fn, pu, pr⟩) := ⟨rfl, rfl, rfl, fun cy Y k => by kernel_rfl⟩
noncomputable def F76 : FFn := ⟨15, [0, 2], (.seq (.reg [⟨.mv (.k (.bool false)), (.var 1), none, true, 0, none⟩]) (.seq (.reg [⟨.len 26 (.v 0), .push, none, false, 1, none⟩,
    ⟨.bin .leq 3 false true (.l 0) (.k (.int .i64 40)), .push, none, false, 2, none⟩,
    ⟨.mv (.v 0), .push, (some ((.l 0), true)), true, 4, none⟩,
    ⟨.call 111 [(.l 0)], .push, (some ((.l 1), true)), false, 5, (some 0)⟩,
    ⟨.pick (.l 2) (.l 0) (.k (.bool false)), .push, none, true, 6, none⟩,
    ⟨.mv (.v 0), .push, (some ((.l 0), true)), true, 8, none⟩,
    ⟨.call 112 [(.l 0), (.k (.clo 113 []))], .push, (some ((.l 1), true)), false, 9, (some 1)⟩,
    ⟨.un .not (.l 0), .push, (some ((.l 2), true)), false, 10, none⟩,
    ⟨.pick (.l 3) (.l 0) (.k (.bool false)), .push, none, true, 11, none⟩,
    ⟨.mv (.l 0), (.var 1), none, true, 12, none⟩]) .ret)), [.tmp (.v 1)]⟩
noncomputable def G76 (E : Env) : ZFn := ⟨15, [0, 2], fun cy Y fuel =>
  (zSeq (zReg fun k => (zDst (.var 1) (vMv (.k (.bool false)))) k)
  (zSeq (zReg fun k => (zDst .push (vLenL (.v 0))) ((zDst .push (vInt E (fGen .leq) .leq 3 false true (.l 0) (.k (.int .i64 40)))) ((zG (.l 0) true .push (zDst .push (vMv (.v 0)))) ((zG (.l 1) true .push (zCall (cy Y) 111 [(.l 0)] .push)) ((zDst .push (vPick (.l 2) (.l 0) (.k (.bool false)))) ((zG (.l 0) true .push (zDst .push (vMv (.v 0)))) ((zG (.l 1) true .push (zCall (cy Y) 112 [(.l 0), (.k (.clo 113 []))] .push)) ((zG (.l 2) true .push (zDst .push (vNot (.l 0)))) ((zDst .push (vPick (.l 3) (.l 0) (.k (.bool false)))) ((zDst (.var 1) (vMv (.l 0))) k))))))))))
  zRet)), [.tmp (.v 1)]⟩
theorem G76_ok (fn : Nat → Option Func) (pu : Nat → Bool) (pr : Nat → List AV → Option (Heap → Option (Eff × Acc))) : ZOk ⟨Tryz.tyT, fn, pu, pr⟩ npT F76 (G76 ⟨Tryz.tyT, fn, pu, pr⟩) := ⟨rfl, rfl, rfl, fun cy Y k => by kernel_rfl⟩
noncomputable def F77 : FFn := ⟨9, [0, 1, 4], (.seq (.reg [⟨.mv (.k (.bool false)), (.var 2), none, true, 0, none⟩]) (.seq (.reg [⟨.call 114 [(.v 0), (.v 1)], .push, none, false, 2, (some 0)⟩,
    ⟨.bin .geq 3 false true (.l 0) (.k (.int .i64 0)), .push, none, false, 3, none⟩,
    ⟨.mv (.l 0), (.var 2), none, true, 4, none⟩]) .ret)), [.tmp (.v 2)]⟩
noncomputable def G77 (E : Env) : ZFn := ⟨9, [0, 1, 4], fun cy Y fuel =>
  (zSeq (zReg fun k => (zDst (.var 2) (vMv (.k (.bool false)))) k)
  (zSeq (zReg fun k => (zCall (cy Y) 114 [(.v 0), (.v 1)] .push) ((zDst .push (vInt E (fGen .geq) .geq 3 false true (.l 0) (.k (.int .i64 0)))) ((zDst (.var 2) (vMv (.l 0))) k)))
  zRet)), [.tmp (.v 2)]⟩
theorem G77_ok (fn : Nat → Option Func) (pu : Nat → Bool) (pr : Nat → List AV → Option (Heap → Option (Eff × Acc))) : ZOk ⟨Tryz.tyT, fn, pu, pr⟩ npT F77 (G77 ⟨Tryz.tyT, fn, pu, pr⟩) := ⟨rfl, rfl, rfl, fun cy Y k => by kernel_rfl⟩
noncomputable def F78 : FFn := ⟨17, [0, 1, 3, 2, 4], (.seq (.reg [⟨.box 30 (.v 0), (.var 2), none, false, 0, (some 0)⟩,
    ⟨.mv (.k (.bool false)), (.var 4), none, true, 1, none⟩]) (.seq (.dreg 2 [0, 0, 3, 7, 15, 31, 63, 127, 255, 31, 1023, 2047, 4095] [⟨.load 125 (.v 1), .push, none, true, 0, none⟩,
    ⟨.load 30 (.v 2), .push, none, true, 1, none⟩,
    ⟨.callv (.l 1) [(.l 0)], .push, none, false, 2, (some 0)⟩,
    ⟨.un .not (.l 0), .push, none, false, 3, none⟩,
    ⟨.fieldAddr 24 (.v 3) 1, .push, (some ((.l 0), false)), true, 5, none⟩,
    ⟨.load 22 (.l 0), .push, (some ((.l 1), false)), true, 6, none⟩,
    ⟨.indexAddr 22 (.l 0) (.k (.int .i64 0)), .push, (some ((.l 2), false)), true, 7, none⟩,
    ⟨.load 24 (.l 0), .push, (some ((.l 3), false)), true, 8, none⟩,
    ⟨.load 30 (.v 2), .push, (some ((.l 4), false)), true, 9, none⟩,
    ⟨.call 46 [(.l 1), (.l 0)], .push, (some ((.l 5), false)), false, 10, (some 1)⟩,
    ⟨.pick (.l 6) (.k (.bool true)) (.l 0), .push, none, true, 11, none⟩,
    ⟨.mv (.l 0), (.var 4), none, true, 12, none⟩]) .ret)), [.tmp (.v 4)]⟩
noncomputable def G78 (E : Env) : ZFn := ⟨17, [0, 1, 3, 2, 4], fun cy Y fuel =>
  (zSeq (zReg fun k => (zStep E (cy Y) ⟨.box 30 (.v 0), (.var 2), none, false, 0, (some 0)⟩) ((zDst (.var 4) (vMv (.k (.bool false)))) k))
  (zSeq (zDreg 2 fun n0 k => (zDstWD [0, 0, 3, 7, 15, 31, 63, 127, 255, 31, 1023, 2047, 4095] 0 .push (wLoad 1 false (.v 1))) ((zDstWD [0, 0, 3, 7, 15, 31, 63, 127, 255, 31, 1023, 2047, 4095] 1 .push (wLoad 5 true (.v 2))) ((zStepD E (cy Y) [0, 0, 3, 7, 15, 31, 63, 127, 255, 31, 1023, 2047, 4095] n0 ⟨.callv (.l 1) [(.l 0)], .push, none, false, 2, (some 0)⟩) ((fun k sp => zDst .push (vNot (.l 0)) (k sp)) ((zGD (.l 0) false .push (fun k sp => zDst .push (vFieldAddr 1 (.v 3)) (k sp))) ((zGD (.l 1) false .push (zDstWD [0, 0, 3, 7, 15, 31, 63, 127, 255, 31, 1023, 2047, 4095] 6 .push (wLoad 1 false (.l 0)))) ((zGD (.l 2) false .push (fun k sp => zDst .push (vIndexAddr 2 (.l 0) (.k (.int .i64 0))) (k sp))) ((zGD (.l 3) false .push (zDstWD [0, 0, 3, 7, 15, 31, 63, 127, 255, 31, 1023, 2047, 4095] 8 .push (wLoad 2 true (.l 0)))) ((zGD (.l 4) false .push (zDstWD [0, 0, 3, 7, 15, 31, 63, 127, 255, 31, 1023, 2047, 4095] 9 .push (wLoad 5 true (.v 2)))) ((zGD (.l 5) false .push (zCallD (cy Y) [0, 0, 3, 7, 15, 31, 63, 127, 255, 31, 1023, 2047, 4095] 10 46 [(.l 1), (.l 0)] .push)) ((fun k sp => zDst .push (vPick (.l 6) (.k (.bool true)) (.l 0)) (k sp)) ((fun k sp => zDst (.var 4) (vMv (.l 0)) (k sp)) k))))))))))))
  zRet)), [.tmp (.v 4)]⟩
theorem G78_ok (fn : Nat → Option Func) (pu : Nat → Bool) (pr : Nat → List AV → Option (Heap → Option (Eff × Acc))) : ZOk ⟨Tryz.tyT, fn, pu, pr⟩ npT F78 (G78 ⟨Tryz.tyT, fn, pu, pr⟩) := ⟨rfl, rfl, rfl, fun cy Y k => by kernel_rfl⟩
noncomputable def F80 : FFn := ⟨44, [0, 7, 6, 5, 4, 3, 2], (.seq (.reg [⟨.mv (.k (.bool false)), (.var 6), none, true, 0, none⟩]) (.seq (.seq (.reg [⟨.mv (.v 0), (.var 3), none, true, 0, none⟩,
    ⟨.len 58 (.v 3), (.var 2), none, false, 1, none⟩,
    ⟨.mv (.k (.int .i64 0)), (.var 1), none, true, 2, none⟩]) (.block 0 (.loop (.seq (.reg [⟨.bin .lss 3 false false (.v 1) (.v 2), .push, none, false, 0, none⟩]) (.seq (.cond (.l 0) .skip (.exit 0)) (.seq (.block 1 (.seq (.reg [⟨.indexAddr 58 (.v 3) (.v 1), .push, none, true, 1, none⟩,
    ⟨.load 57 (.l 0), .push, none, true, 2, none⟩,
    ⟨.alloc 57, (.var 4), none, false, 3, (some 0)⟩,
    ⟨.mv (.v 1), (.var 5), none, true, 4, none⟩,
    ⟨.store 57 (.v 4) (.l 0), .none, none, false, 5, none⟩]) (.seq (.dreg 0 [0, 1, 3, 7, 15, 31, 63, 127, 255, 511, 1023, 2047, 4095, 8191, 16383, 32767, 65535, 131071, 262143, 131071, 131071, 1179647, 3801087, 7995391, 16383999, 33554431, 67108863, 134217727] [⟨.fieldAddr 57 (.v 4) 0, .push, none, true, 0, none⟩,
    ⟨.load 3 (.l 0), .push, none, true, 1, none⟩,
    ⟨.bin .lss 3 false true (.l 0) (.k (.int .i64 0)), .push, none, false, 2, none⟩,
    ⟨.fieldAddr 57 (.v 4) 0, .push, (some ((.l 0), false)), true, 4, none⟩,
    ⟨.load 3 (.l 0), .push, (some ((.l 1), false)), true, 5, none⟩,
    ⟨.bin .gtr 3 false true (.l 0) (.k (.int .i64 1000000)), .push, (some ((.l 2), false)), false, 6, none⟩,
    ⟨.pick (.l 3) (.k (.bool true)) (.l 0), .push, none, true, 7, none⟩,
    ⟨.fieldAddr 57 (.v 4) 1, .push, (some ((.l 0), false)), true, 9, none⟩,
    ⟨.load 25 (.l 0), .push, (some ((.l 1), false)), true, 10, none⟩,
    ⟨.bin .eql 25 false true (.l 0) (.k (.int .u64 0)), .push, (some ((.l 2), false)), false, 11, none⟩,
    ⟨.pick (.l 3) (.k (.bool true)) (.l 0), .push, none, true, 12, none⟩,
    ⟨.mv (.v 5), .push, (some ((.l 0), false)), true, 14, none⟩,
    ⟨.bin .gtr 3 false true (.l 0) (.k (.int .i64 0)), .push, (some ((.l 1), false)), false, 15, none⟩,
    ⟨.mv (.l 0), .push, (some ((.l 2), false)), true, 16, none⟩,
    ⟨.fieldAddr 57 (.v 4) 0, .push, (some ((.l 0), true)), true, 17, none⟩,
    ⟨.load 3 (.l 0), .push, (some ((.l 1), true)), true, 18, none⟩,
    ⟨.mv (.v 0), .push, (some ((.l 2), true)), true, 19, none⟩,
    ⟨.mv (.v 5), .push, (some ((.l 3), true)), true, 20, none⟩,
    ⟨.bin .sub 3 false true (.l 0) (.k (.int .i64 1)), .push, (some ((.l 4), true)), false, 21, none⟩,
    ⟨.indexAddr 58 (.l 2) (.l 0), .push, (some ((.l 5), true)), true, 22, none⟩,
    ⟨.fieldAddr 57 (.l 0) 0, .push, (some ((.l 6), true)), true, 23, none⟩,
    ⟨.load 3 (.l 0), .push, (some ((.l 7), true)), true, 24, none⟩,
    ⟨.bin .leq 3 false false (.l 6) (.l 0), .push, (some ((.l 8), true)), false, 25, none⟩,
    ⟨.pick (.l 9) (.l 0) (.k (.bool false)), .push, (some ((.l 12), false)), true, 26, none⟩,
    ⟨.pick (.l 13) (.k (.bool true)) (.l 0), .push, none, true, 27, none⟩]) (.cond (.l 0) (.seq (.reg [⟨.mv (.k (.bool false)), (.var 6), none, true, 0, none⟩]) .ret) .skip)))) (.reg [⟨.bin .add 3 false true (.v 1) (.k (.int .i64 1)), .push, none, false, 0, none⟩,
    ⟨.mv (.l 0), (.var 1), none, true, 1, none⟩]))))))) (.seq (.reg [⟨.len 58 (.v 0), .push, none, false, 1, none⟩,
    ⟨.bin .leq 3 false true (.l 0) (.k (.int .i64 40)), .push, none, false, 2, none⟩,
    ⟨.mv (.l 0), (.var 6), none, true, 3, none⟩]) .ret))), [.tmp (.v 6)]⟩
noncomputable def G80 (E : Env) : ZFn := ⟨44, [0, 7, 6, 5, 4, 3, 2], fun cy Y fuel =>
  (zSeq (zReg fun k => (zDst (.var 6) (vMv (.k (.bool false)))) k)
  (zSeq (zSeq (zReg fun k => (zDst (.var 3) (vMv (.v 0))) ((zDst (.var 2) (vLenL (.v 3))) ((zDst (.var 1) (vMv (.k (.int .i64 0)))) k)))
  (zBlock 0 (zLoop fuel (zSeq (zReg fun k => (zDst .push (vInt E fLss .lss 3 false false (.v 1) (.v 2))) k)
  (zSeq (zCond (.l 0) zSkip (zExit 0))
  (zSeq (zBlock 1 (zSeq (zReg fun k => (zDst .push (vIndexAddr 2 (.v 3) (.v 1))) ((zDstW .push (wLoad 2 true (.l 0))) ((zStep E (cy Y) ⟨.alloc 57, (.var 4), none, false, 3, (some 0)⟩) ((zDst (.var 5) (vMv (.v 1))) ((zStep E (cy Y) ⟨.store 57 (.v 4) (.l 0), .none, none, false, 5, none⟩) k)))))
  (zSeq (zDreg 0 fun n0 k => (fun k sp => zDst .push (vFieldAddr 0 (.v 4)) (k sp)) ((zDstWD [0, 1, 3, 7, 15, 31, 63, 127, 255, 511, 1023, 2047, 4095, 8191, 16383, 32767, 65535, 131071, 262143, 131071, 131071, 1179647, 3801087, 7995391, 16383999, 33554431, 67108863, 134217727] 1 .push (wLoad 1 false (.l 0))) ((fun k sp => zDst .push (vInt E fLss .lss 3 false true (.l 0) (.k (.int .i64 0))) (k sp)) ((zGD (.l 0) false .push (fun k sp => zDst .push (vFieldAddr 0 (.v 4)) (k sp))) ((zGD (.l 1) false .push (zDstWD [0, 1, 3, 7, 15, 31, 63, 127, 255, 511, 1023, 2047, 4095, 8191, 16383, 32767, 65535, 131071, 262143, 131071, 131071, 1179647, 3801087, 7995391, 16383999, 33554431, 67108863, 134217727] 5 .push (wLoad 1 false (.l 0)))) ((zGD (.l 2) false .push (fun k sp => zDst .push (vInt E fGtr .gtr 3 false true (.l 0) (.k (.int .i64 1000000))) (k sp))) ((fun k sp => zDst .push (vPick (.l 3) (.k (.bool true)) (.l 0)) (k sp)) ((zGD (.l 0) false .push (fun k sp => zDst .push (vFieldAddr 1 (.v 4)) (k sp))) ((zGD (.l 1) false .push (zDstWD [0, 1, 3, 7, 15, 31, 63, 127, 255, 511, 1023, 2047, 4095, 8191, 16383, 32767, 65535, 131071, 262143, 131071, 131071, 1179647, 3801087, 7995391, 16383999, 33554431, 67108863, 134217727] 10 .push (wLoad 1 false (.l 0)))) ((zGD (.l 2) false .push (fun k sp => zDst .push (vInt E fEql .eql 25 false true (.l 0) (.k (.int .u64 0))) (k sp))) ((fun k sp => zDst .push (vPick (.l 3) (.k (.bool true)) (.l 0)) (k sp)) ((zGD (.l 0) false .push (fun k sp => zDst .push (vMv (.v 5)) (k sp))) ((zGD (.l 1) false .push (fun k sp => zDst .push (vInt E fGtr .gtr 3 false true (.l 0) (.k (.int .i64 0))) (k sp))) ((zGD (.l 2) false .push (fun k sp => zDst .push (vMv (.l 0)) (k sp))) ((zGD (.l 0) true .push (fun k sp => zDst .push (vFieldAddr 0 (.v 4)) (k sp))) ((zGD (.l 1) true .push (zDstWD [0, 1, 3, 7, 15, 31, 63, 127, 255, 511, 1023, 2047, 4095, 8191, 16383, 32767, 65535, 131071, 262143, 131071, 131071, 1179647, 3801087, 7995391, 16383999, 33554431, 67108863, 134217727] 18 .push (wLoad 1 false (.l 0)))) ((zGD (.l 2) true .push (fun k sp => zDst .push (vMv (.v 0)) (k sp))) ((zGD (.l 3) true .push (fun k sp => zDst .push (vMv (.v 5)) (k sp))) ((zGD (.l 4) true .push (fun k sp => zDst .push (vInt E fSub .sub 3 false true (.l 0) (.k (.int .i64 1))) (k sp))) ((zGD (.l 5) true .push (fun k sp => zDst .push (vIndexAddr 2 (.l 2) (.l 0)) (k sp))) ((zGD (.l 6) true .push (fun k sp => zDst .push (vFieldAddr 0 (.l 0)) (k sp))) ((zGD (.l 7) true .push (zDstWD [0, 1, 3, 7, 15, 31, 63, 127, 255, 511, 1023, 2047, 4095, 8191, 16383, 32767, 65535, 131071, 262143, 131071, 131071, 1179647, 3801087, 7995391, 16383999, 33554431, 67108863, 134217727] 24 .push (wLoad 1 false (.l 0)))) ((zGD (.l 8) true .push (fun k sp => zDst .push (vInt E (fGen .leq) .leq 3 false false (.l 6) (.l 0)) (k sp))) ((zGD (.l 12) false .push (fun k sp => zDst .push (vPick (.l 9) (.l 0) (.k (.bool false))) (k sp))) ((fun k sp => zDst .push (vPick (.l 13) (.k (.bool true)) (.l 0)) (k sp)) k)))))))))))))))))))))))))
  (zCond (.l 0) (zSeq (zReg fun k => (zDst (.var 6) (vMv (.k (.bool false)))) k)
  zRet) zSkip))))
  (zReg fun k => (zDst .push (vInt E fAdd .add 3 false true (.v 1) (.k (.int .i64 1)))) ((zDst (.var 1) (vMv (.l 0))) k))))))))
  (zSeq (zReg fun k => (zDst .push (vLenL (.v 0))) ((zDst .push (vInt E (fGen .leq) .leq 3 false true (.l 0) (.k (.int .i64 40)))) ((zDst (.var 6) (vMv (.l 0))) k)))
  zRet))), [.tmp (.v 6)]⟩
theorem G80_ok (fn : Nat → Option Func) (pu : Nat → Bool) (pr : Nat → List AV → Option (Heap → Option (Eff × Acc))) : ZOk ⟨Tryz.tyT, fn, pu, pr⟩ npT F80 (G80 ⟨Tryz.tyT, fn, pu, pr⟩) := ⟨rfl, rfl, rfl, fun cy Y k => by kernel_rfl⟩
noncomputable def F81 : FFn := ⟨31, [0, 9, 8, 7, 4, 2], (.seq (.reg [⟨.alloc 4, (.var 5), none, false, 0, (some 0)⟩]) (.seq (.seq (.reg [⟨.mv (.v 0), (.var 3), none, true, 0, none⟩,
    ⟨.len 27 (.v 3), (.var 2), none, false, 1, none⟩,
    ⟨.mv (.k (.int .i64 0)), (.var 1), none, true, 2, none⟩]) (.block 0 (.loop (.seq (.reg [⟨.bin .lss 3 false false (.v 1) (.v 2), .push, none, false, 0, none⟩]) (.seq (.cond (.l 0) .skip (.exit 0)) (.seq (.block 1 (.seq (.reg [⟨.indexAddr 27 (.v 3) (.v 1), .push, none, true, 0, none⟩,
    ⟨.load 58 (.l 0), .push, none, true, 1, none⟩,
    ⟨.mv (.l 0), (.var 4), none, true, 2, none⟩]) (.seq (.reg [⟨.call 80 [(.v 4)], .push, none, false, 1, (some 0)⟩,
    ⟨.un .not (.l 0), .push, none, false, 2, none⟩]) (.cond (.l 0) (.seq (.reg [⟨.store 4 (.v 5) (.k (.bool false)), .none, none, false, 0, none⟩]) .ret) .skip)))) (.reg [⟨.bin .add 3 false true (.v 1) (.k (.int .i64 1)), .push, none, false, 0, none⟩,
    ⟨.mv (.l 0), (.var 1), none, true, 1, none⟩]))))))) (.seq (.seq (.reg [⟨.call 115 [(.v 0)], .push, none, false, 1, (some 0)⟩]) (.block 2 (.range (.l 0) 6 [none, none, none, none, (some (.v 5))] [none, none, (some (.v 5)), none, none, none, none, none, none, none, none, none, none, none, none, none, none, none, none, none, none, none, none, none, none, none, none, none, none, none, none] [19, 20] (codeAt [1, 1, 0, 1, 0, 0] (bodyOf Tryz.f81)) (codeAt [1, 1, 0, 1, 0, 1] (bodyOf Tryz.f81))))) (.seq (.reg [⟨.store 4 (.v 5) (.k (.bool true)), .none, none, false, 0, none⟩]) .ret)))), [.cell (.v 5) 4]⟩
noncomputable def G81 (E : Env) : ZFn := ⟨31, [0, 9, 8, 7, 4, 2], fun cy Y fuel =>
  (zSeq (zReg fun k => (zStep E (cy Y) ⟨.alloc 4, (.var 5), none, false, 0, (some 0)⟩) k)
  (zSeq (zSeq (zReg fun k => (zDst (.var 3) (vMv (.v 0))) ((zDst (.var 2) (vLenL (.v 3))) ((zDst (.var 1) (vMv (.k (.int .i64 0)))) k)))
  (zBlock 0 (zLoop fuel (zSeq (zReg fun k => (zDst .push (vInt E fLss .lss 3 false false (.v 1) (.v 2))) k)
  (zSeq (zCond (.l 0) zSkip (zExit 0))
  (zSeq (zBlock 1 (zSeq (zReg fun k => (zDst .push (vIndexAddr 1 (.v 3) (.v 1))) ((zDstW .push (wLoad 1 false (.l 0))) ((zDst (.var 4) (vMv (.l 0))) k)))
  (zSeq (zReg fun k => (zCall (cy Y) 80 [(.v 4)] .push) ((zDst .push (vNot (.l 0))) k))
  (zCond (.l 0) (zSeq (zReg fun k => (zStep E (cy Y) ⟨.store 4 (.v 5) (.k (.bool false)), .none, none, false, 0, none⟩) k)
  zRet) zSkip))))
  (zReg fun k => (zDst .push (vInt E fAdd .add 3 false true (.v 1) (.k (.int .i64 1)))) ((zDst (.var 1) (vMv (.l 0))) k))))))))
  (zSeq (zSeq (zReg fun k => (zCall (cy Y) 115 [(.v 0)] .push) k)
  (zBlock 2 (zRange cy Y (.l 0) 6 [none, none, none, none, (some (.v 5))] [none, none, (some (.v 5)), none, none, none, none, none, none, none, none, none, none, none, none, none, none, none, none, none, none, none, none, none, none, none, none, none, none, none, none] [19, 20] (codeAt [1, 1, 0, 1, 0, 0] (bodyOf Tryz.f81)) (codeAt [1, 1, 0, 1, 0, 1] (bodyOf Tryz.f81)))))
  (zSeq (zReg fun k => (zStep E (cy Y) ⟨.store 4 (.v 5) (.k (.bool true)), .none, none, false, 0, none⟩) k)
  zRet)))), [.cell (.v 5) 4]⟩
theorem G81_ok (fn : Nat → Option Func) (pu : Nat → Bool) (pr : Nat → List AV → Option (Heap → Option (Eff × Acc))) : ZOk ⟨Tryz.tyT, fn, pu, pr⟩ npT F81 (G81 ⟨Tryz.tyT, fn, pu, pr⟩) := ⟨rfl, rfl, rfl, fun cy Y k => by kernel_rfl⟩
noncomputable def F82 : FFn := ⟨8, [0, 1, 2, 3], (.seq (.reg [⟨.box 30 (.v 0), (.var 2), none, false, 0, (some 0)⟩,
    ⟨.mv (.k (.bool false)), (.var 3), none, true, 1, none⟩]) (.seq (.reg [⟨.load 125 (.v 1), .push, none, true, 0, none⟩,
    ⟨.load 30 (.v 2), .push, none, true, 1, none⟩,
    ⟨.callv (.l 1) [(.l 0)], .push, none, false, 2, (some 0)⟩,
    ⟨.un .not (.l 0), .push, none, false, 3, none⟩,
    ⟨.mv (.l 0), (.var 3), none, true, 4, none⟩]) .ret)), [.tmp (.v 3)]⟩
noncomputable def G82 (E : Env) : ZFn := ⟨8, [0, 1, 2, 3], fun cy Y fuel =>
  (zSeq (zReg fun k => (zStep E (cy Y) ⟨.box 30 (.v 0), (.var 2), none, false, 0, (some 0)⟩) ((zDst (.var 3) (vMv (.k (.bool false)))) k))
  (zSeq (zReg fun k => (zDstW .push (wLoad 1 false (.v 1))) ((zDstW .push (wLoad 5 true (.v 2))) ((zStep E (cy Y) ⟨.callv (.l 1) [(.l 0)], .push, none, false, 2, (some 0)⟩) ((zDst .push (vNot (.l 0))) ((zDst (.var 3) (vMv (.l 0))) k)))))
  zRet)), [.tmp (.v 3)]⟩
theorem G82_ok (fn : Nat → Option Func) (pu : Nat → Bool) (pr : Nat → List AV → Option (Heap → Option (Eff × Acc))) : ZOk ⟨Tryz.tyT, fn, pu, pr⟩ npT F82 (G82 ⟨Tryz.tyT, fn, pu, pr⟩) := ⟨rfl, rfl, rfl, fun cy Y k => by kernel_rfl⟩
noncomputable def F83 : FFn := ⟨38, [0, 1, 2, 3, 4], (.seq (.reg [⟨.box 30 (.v 0), (.var 2), none, false, 0, (some 0)⟩,
    ⟨.box 30 (.v 1), (.var 3), none, false, 1, (some 1)⟩,
    ⟨.mv (.k (.bool false)), (.var 4), none, true, 2, none⟩]) (.seq (.reg [⟨.fieldAddr 30 (.v 2) 0, .push, none, true, 0, none⟩,
    ⟨.load 25 (.l 0), .push, none, true, 1, none⟩,
    ⟨.fieldAddr 30 (.v 3) 0, .push, none, true, 2, none⟩,
    ⟨.load 25 (.l 0), .push, none, true, 3, none⟩,
    ⟨.bin .eql 25 false false (.l 2) (.l 0), .push, none, false, 4, none⟩,
    ⟨.fieldAddr 30 (.v 2) 1, .push, (some ((.l 0), true)), true, 6, none⟩,
    ⟨.load 25 (.l 0), .push, (some ((.l 1), true)), true, 7, none⟩,
    ⟨.fieldAddr 30 (.v 3) 1, .push, (some ((.l 2), true)), true, 8, none⟩,
    ⟨.load 25 (.l 0), .push, (some ((.l 3), true)), true, 9, none⟩,
    ⟨.bin .eql 25 false false (.l 2) (.l 0), .push, (some ((.l 4), true)), false, 10, none⟩,
    ⟨.pick (.l 5) (.l 0) (.k (.bool false)), .push, none, true, 11, none⟩,
    ⟨.fieldAddr 30 (.v 2) 2, .push, (some ((.l 0), true)), true, 13, none⟩,
    ⟨.load 26 (.l 0), .push, (some ((.l 1), true)), true, 14, none⟩,
    ⟨.fieldAddr 30 (.v 3) 2, .push, (some ((.l 2), true)), true, 15, none⟩,
    ⟨.load 26 (.l 0), .push, (some ((.l 3), true)), true, 16, none⟩,
    ⟨.call 118 [(.l 2), (.l 0)], .push, (some ((.l 4), true)), false, 17, (some 0)⟩,
    ⟨.pick (.l 5) (.l 0) (.k (.bool false)), .push, none, true, 18, none⟩,
    ⟨.fieldAddr 30 (.v 2) 3, .push, (some ((.l 0), true)), true, 20, none⟩,
    ⟨.load 27 (.l 0), .push, (some ((.l 1), true)), true, 21, none⟩,
    ⟨.fieldAddr 30 (.v 3) 3, .push, (some ((.l 2), true)), true, 22, none⟩,
    ⟨.load 27 (.l 0), .push, (some ((.l 3), true)), true, 23, none⟩,
    ⟨.call 119 [(.l 2), (.l 0), (.k (.clo 25 []))], .push, (some ((.l 4), true)), false, 24, (some 1)⟩,
    ⟨.pick (.l 5) (.l 0) (.k (.bool false)), .push, none, true, 25, none⟩,
    ⟨.fieldAddr 30 (.v 2) 4, .push, (some ((.l 0), true)), true, 27, none⟩,
    ⟨.load 28 (.l 0), .push, (some ((.l 1), true)), true, 28, none⟩,
    ⟨.fieldAddr 30 (.v 3) 4, .push, (some ((.l 2), true)), true, 29, none⟩,
    ⟨.load 28 (.l 0), .push, (some ((.l 3), true)), true, 30, none⟩,
    ⟨.call 120 [(.l 2), (.l 0), (.k (.clo 83 []))], .push, (some ((.l 4), true)), false, 31, (some 2)⟩,
    ⟨.pick (.l 5) (.l 0) (.k (.bool false)), .push, none, true, 32, none⟩,
    ⟨.mv (.l 0), (.var 4), none, true, 33, none⟩]) .ret)), [.tmp (.v 4)]⟩
noncomputable def G83 (E : Env) : ZFn := ⟨38, [0, 1, 2, 3, 4], fun cy Y fuel =>
  (zSeq (zReg fun k => (zStep E (cy Y) ⟨.box 30 (.v 0), (.var 2), none, false, 0, (some 0)⟩) ((zStep E (cy Y) ⟨.box 30 (.v 1), (.var 3), none, false, 1, (some 1)⟩) ((zDst (.var 4) (vMv (.k (.bool false)))) k)))
  (zSeq (zReg fun k => (zDst .push (vFieldAddr 0 (.v 2))) ((zDstW .push (wLoad 1 false (.l 0))) ((zDst .push (vFieldAddr 0 (.v 3))) ((zDstW .push (wLoad 1 false (.l 0))) ((zDst .push (vInt E fEql .eql 25 false false (.l 2) (.l 0))) ((zG (.l 0) true .push (zDst .push (vFieldAddr 1 (.v 2)))) ((zG (.l 1) true .push (zDstW .push (wLoad 1 false (.l 0)))) ((zG (.l 2) true .push (zDst .push (vFieldAddr 1 (.v 3)))) ((zG (.l 3) true .push (zDstW .push (wLoad 1 false (.l 0)))) ((zG (.l 4) true .push (zDst .push (vInt E fEql .eql 25 false false (.l 2) (.l 0)))) ((zDst .push (vPick (.l 5) (.l 0) (.k (.bool false)))) ((zG (.l 0) true .push (zDst .push (vFieldAddr 2 (.v 2)))) ((zG (.l 1) true .push (zDstW .push (wLoad 1 false (.l 0)))) ((zG (.l 2) true .push (zDst .push (vFieldAddr 2 (.v 3)))) ((zG (.l 3) true .push (zDstW .push (wLoad 1 false (.l 0)))) ((zG (.l 4) true .push (zCall (cy Y) 118 [(.l 2), (.l 0)] .push)) ((zDst .push (vPick (.l 5) (.l 0) (.k (.bool false)))) ((zG (.l 0) true .push (zDst .push (vFieldAddr 3 (.v 2)))) ((zG (.l 1) true .push (zDstW .push (wLoad 1 false (.l 0)))) ((zG (.l 2) true .push (zDst .push (vFieldAddr 3 (.v 3)))) ((zG (.l 3) true .push (zDstW .push (wLoad 1 false (.l 0)))) ((zG (.l 4) true .push (zCall (cy Y) 119 [(.l 2), (.l 0), (.k (.clo 25 []))] .push)) ((zDst .push (vPick (.l 5) (.l 0) (.k (.bool false)))) ((zG (.l 0) true .push (zDst .push (vFieldAddr 4 (.v 2)))) ((zG (.l 1) true .push (zDstW .push (wLoad 1 false (.l 0)))) ((zG (.l 2) true .push (zDst .push (vFieldAddr 4 (.v 3)))) ((zG (.l 3) true .push (zDstW .push (wLoad 1 false (.l 0)))) ((zG (.l 4) true .push (zCall (cy Y) 120 [(.l 2), (.l 0), (.k (.clo 83 []))] .push)) ((zDst .push (vPick (.l 5) (.l 0) (.k (.bool false)))) ((zDst (.var 4) (vMv (.l 0))) k))))))))))))))))))))))))))))))
  zRet)), [.tmp (.v 4)]⟩
theorem G83_ok (fn : Nat → Option Func) (pu : Nat → Bool) (pr : Nat → List AV → Option (Heap → Option (Eff × Acc))) : ZOk ⟨Tryz.tyT, fn, pu, pr⟩ npT F83 (G83 ⟨Tryz.tyT, fn, pu, pr⟩) := ⟨rfl, rfl, rfl, fun cy Y k => by kernel_rfl⟩
noncomputable def F85 : FFn := ⟨24, [0, 1, 2], (.seq (.reg [⟨.box 24 (.v 0), (.var 1), none, false, 0, (some 0)⟩,
    ⟨.alloc 30, (.var 2), none, false, 1, (some 1)⟩]) (.seq (.seq (.reg [⟨.load 24 (.v 1), .push, none, true, 0, none⟩,
    ⟨.call 32 [(.l 0)], .push, none, false, 1, (some 0)⟩,
    ⟨.un .not (.l 0), .push, none, false, 2, none⟩,
    ⟨.fieldAddr 24 (.v 1) 0, .push, (some ((.l 0), false)), true, 4, none⟩,
    ⟨.load 3 (.l 0), .push, (some ((.l 1), false)), true, 5, none⟩,
    ⟨.bin .neq 3 false true (.l 0) (.k (.int .i64 5)), .push, (some ((.l 2), false)), false, 6, none⟩,
    ⟨.pick (.l 3) (.k (.bool true)) (.l 0), .push, none, true, 7, none⟩]) (.cond (.l 0) (.seq (.reg [⟨.build 30 [], .push, none, false, 0, none⟩,
    ⟨.store 30 (.v 2) (.l 0), .none, none, false, 1, none⟩]) .ret) .skip)) (.seq (.dreg 3 [0, 1, 3, 7, 15, 0, 32, 96, 224, 511, 1023, 2047, 4095] [⟨.fieldAddr 24 (.v 1) 1, .push, none, true, 0, none⟩,
    ⟨.load 22 (.l 0), .push, none, true, 1, none⟩,
    ⟨.indexAddr 22 (.l 0) (.k (.int .i64 0)), .push, none, true, 2, none⟩,
    ⟨.load 24 (.l 0), .push, none, true, 3, none⟩,
    ⟨.call 85 [(.l 0)], .push, none, false, 4, (some 0)⟩,
    ⟨.fieldAddr 24 (.v 1) 1, .push, none, true, 5, none⟩,
    ⟨.load 22 (.l 0), .push, none, true, 6, none⟩,
    ⟨.indexAddr 22 (.l 0) (.k (.int .i64 1)), .push, none, true, 7, none⟩,
    ⟨.load 24 (.l 0), .push, none, true, 8, none⟩,
    ⟨.call 85 [(.l 0)], .push, none, false, 9, (some 1)⟩,
    ⟨.buildSlice 28 2 [(0, (.l 5)), (1, (.l 0))], .push, none, false, 10, (some 2)⟩,
    ⟨.build 30 [(4, (.l 0))], .push, none, false, 11, none⟩,
    ⟨.store 30 (.v 2) (.l 0), .none, none, false, 12, none⟩]) .ret))), [.cell (.v 2) 30]⟩
noncomputable def G85 (E : Env) : ZFn := ⟨24, [0, 1, 2], fun cy Y fuel =>
  (zSeq (zReg fun k => (zStep E (cy Y) ⟨.box 24 (.v 0), (.var 1), none, false, 0, (some 0)⟩) ((zStep E (cy Y) ⟨.alloc 30, (.var 2), none, false, 1, (some 1)⟩) k))
  (zSeq (zSeq (zReg fun k => (zDstW .push (wLoad 2 true (.v 1))) ((zCall (cy Y) 32 [(.l 0)] .push) ((zDst .push (vNot (.l 0))) ((zG (.l 0) false .push (zDst .push (vFieldAddr 0 (.v 1)))) ((zG (.l 1) false .push (zDstW .push (wLoad 1 false (.l 0)))) ((zG (.l 2) false .push (zDst .push (vInt E fNeq .neq 3 false true (.l 0) (.k (.int .i64 5))))) ((zDst .push (vPick (.l 3) (.k (.bool true)) (.l 0))) k)))))))
  (zCond (.l 0) (zSeq (zReg fun k => (zStep E (cy Y) ⟨.build 30 [], .push, none, false, 0, none⟩) ((zStep E (cy Y) ⟨.store 30 (.v 2) (.l 0), .none, none, false, 1, none⟩) k))
  zRet) zSkip))
  (zSeq (zDreg 3 fun n0 k => (fun k sp => zDst .push (vFieldAddr 1 (.v 1)) (k sp)) ((zDstWD [0, 1, 3, 7, 15, 0, 32, 96, 224, 511, 1023, 2047, 4095] 1 .push (wLoad 1 false (.l 0))) ((fun k sp => zDst .push (vIndexAddr 2 (.l 0) (.k (.int .i64 0))) (k sp)) ((zDstWD [0, 1, 3, 7, 15, 0, 32, 96, 224, 511, 1023, 2047, 4095] 3 .push (wLoad 2 true (.l 0))) ((zCallD (cy Y) [0, 1, 3, 7, 15, 0, 32, 96, 224, 511, 1023, 2047, 4095] 4 85 [(.l 0)] .push) ((fun k sp => zDst .push (vFieldAddr 1 (.v 1)) (k sp)) ((zDstWD [0, 1, 3, 7, 15, 0, 32, 96, 224, 511, 1023, 2047, 4095] 6 .push (wLoad 1 false (.l 0))) ((fun k sp => zDst .push (vIndexAddr 2 (.l 0) (.k (.int .i64 1))) (k sp)) ((zDstWD [0, 1, 3, 7, 15, 0, 32, 96, 224, 511, 1023, 2047, 4095] 8 .push (wLoad 2 true (.l 0))) ((zCallD (cy Y) [0, 1, 3, 7, 15, 0, 32, 96, 224, 511, 1023, 2047, 4095] 9 85 [(.l 0)] .push) ((zStepD E (cy Y) [0, 1, 3, 7, 15, 0, 32, 96, 224, 511, 1023, 2047, 4095] n0 ⟨.buildSlice 28 2 [(0, (.l 5)), (1, (.l 0))], .push, none, false, 10, (some 2)⟩) ((zStepD E (cy Y) [0, 1, 3, 7, 15, 0, 32, 96, 224, 511, 1023, 2047, 4095] n0 ⟨.build 30 [(4, (.l 0))], .push, none, false, 11, none⟩) ((zStepD E (cy Y) [0, 1, 3, 7, 15, 0, 32, 96, 224, 511, 1023, 2047, 4095] n0 ⟨.store 30 (.v 2) (.l 0), .none, none, false, 12, none⟩) k)))))))))))))
  zRet))), [.cell (.v 2) 30]⟩
theorem G85_ok (fn : Nat → Option Func) (pu : Nat → Bool) (pr : Nat → List AV → Option (Heap → Option (Eff × Acc))) : ZOk ⟨Tryz.tyT, fn, pu, pr⟩ npT F85 (G85 ⟨Tryz.tyT, fn, pu, pr⟩) := ⟨rfl, rfl, rfl, fun cy Y k => by kernel_rfl⟩
noncomputable def F88 : FFn := ⟨22, [0, 1, 5, 6, 4], (.seq (.reg [⟨.mv (.k (.int .i64 0)), (.var 4), none, true, 0, none⟩]) (.seq (.reg [⟨.call 121 [(.v 0), (.v 1)], .push, none, false, 2, (some 0)⟩,
    ⟨.call 121 [(.v 1), (.v 0)], .push, none, false, 5, (some 1)⟩,
    ⟨.mv (.l 1), (.var 2), none, true, 6, none⟩,
    ⟨.mv (.l 0), (.var 3), none, true, 7, none⟩]) (.seq (.block 0 (.seq (.reg [⟨.mv (.v 3), .push, (some ((.v 2), true)), true, 2, none⟩,
    ⟨.pick (.v 2) (.l 0) (.k (.bool false)), .push, none, true, 3, none⟩,
    ⟨.mv (.l 0), .push, none, true, 4, none⟩]) (.cond (.l 0) (.seq (.reg [⟨.mv (.k (.int .i64 0)), (.var 4), none, true, 0, none⟩]) .ret) (.seq (.reg [⟨.mv (.v 2), .push, none, true, 1, none⟩]) (.cond (.l 0) (.seq (.reg [⟨.mv (.k (.int .i64 (-1))), (.var 4), none, true, 0, none⟩]) .ret) (.seq (.reg [⟨.mv (.v 3), .push, none, true, 1, none⟩]) (.cond (.l 0) (.seq (.reg [⟨.mv (.k (.int .i64 1)), (.var 4), none, true, 0, none⟩]) .ret) .skip))))))) (.seq (.reg [⟨.mv (.k (.int .i64 2)), (.var 4), none, true, 0, none⟩]) .ret)))), [.tmp (.v 4)]⟩
noncomputable def G88 (E : Env) : ZFn := ⟨22, [0, 1, 5, 6, 4], fun cy Y fuel =>
  (zSeq (zReg fun k => (zDst (.var 4) (vMv (.k (.int .i64 0)))) k)
  (zSeq (zReg fun k => (zCall (cy Y) 121 [(.v 0), (.v 1)] .push) ((zCall (cy Y) 121 [(.v 1), (.v 0)] .push) ((zDst (.var 2) (vMv (.l 1))) ((zDst (.var 3) (vMv (.l 0))) k))))
  (zSeq (zBlock 0 (zSeq (zReg fun k => (zG (.v 2) true .push (zDst .push (vMv (.v 3)))) ((zDst .push (vPick (.v 2) (.l 0) (.k (.bool false)))) ((zDst .push (vMv (.l 0))) k)))
  (zCond (.l 0) (zSeq (zReg fun k => (zDst (.var 4) (vMv (.k (.int .i64 0)))) k)
  zRet) (zSeq (zReg fun k => (zDst .push (vMv (.v 2))) k)
  (zCond (.l 0) (zSeq (zReg fun k => (zDst (.var 4) (vMv (.k (.int .i64 (-1))))) k)
  zRet) (zSeq (zReg fun k => (zDst .push (vMv (.v 3))) k)
  (zCond (.l 0) (zSeq (zReg fun k => (zDst (.var 4) (vMv (.k (.int .i64 1)))) k)
  zRet) zSkip)))))))
  (zSeq (zReg fun k => (zDst (.var 4) (vMv (.k (.int .i64 2)))) k)
  zRet)))), [.tmp (.v 4)]⟩
theorem G88_ok (fn : Nat → Option Func) (pu : Nat → Bool) (pr : Nat → List AV → Option (Heap → Option (Eff × Acc))) : ZOk ⟨Tryz.tyT, fn, pu, pr⟩ npT F88 (G88 ⟨Tryz.tyT, fn, pu, pr⟩) := ⟨rfl, rfl, rfl, fun cy Y k => by kernel_rfl⟩
noncomputable def F89 : FFn := ⟨67, [5, 0, 1, 4], (.seq (.reg [⟨.mv (.k (.bool false)), (.var 3), none, true, 0, none⟩]) (.seq (.seq (.reg [⟨.mv (.k (.int .i64 0)), (.var 0), none, true, 0, none⟩]) (.block 0 (.loop (.seq (.seq (.reg [⟨.len 58 (.v 1), .push, none, false, 2, none⟩,
    ⟨.bin .lss 3 false false (.v 0) (.l 0), .push, none, false, 3, none⟩,
    ⟨.mv (.v 0), .push, (some ((.l 0), true)), true, 5, none⟩,
    ⟨.mv (.v 2), .push, (some ((.l 1), true)), true, 6, none⟩,
    ⟨.len 58 (.l 0), .push, (some ((.l 2), true)), false, 7, none⟩,
    ⟨.bin .lss 3 false false (.l 2) (.l 0), .push, (some ((.l 3), true)), false, 8, none⟩,
    ⟨.pick (.l 4) (.l 0) (.k (.bool false)), .push, none, true, 9, none⟩]) (.cond (.l 0) .skip (.exit 0))) (.seq (.block 1 (.seq (.seq (.dreg 0 [0, 0, 3, 7, 15, 0, 0, 96, 224, 480, 1023] [⟨.indexAddr 58 (.v 1) (.v 0), .push, none, true, 2, none⟩,
    ⟨.fieldAddr 57 (.l 0) 0, .push, none, true, 3, none⟩,
    ⟨.load 3 (.l 0), .push, none, true, 4, none⟩,
    ⟨.indexAddr 58 (.v 2) (.v 0), .push, none, true, 7, none⟩,
    ⟨.fieldAddr 57 (.l 0) 0, .push, none, true, 8, none⟩,
    ⟨.load 3 (.l 0), .push, none, true, 9, none⟩,
    ⟨.bin .neq 3 false false (.l 3) (.l 0), .push, none, false, 10, none⟩]) (.cond (.l 0) (.seq (.dreg 0 [0, 0, 3, 7, 15, 0, 0, 96, 224, 480, 1023, 2047] [⟨.indexAddr 58 (.v 1) (.v 0), .push, none, true, 2, none⟩,
    ⟨.fieldAddr 57 (.l 0) 0, .push, none, true, 3, none⟩,
    ⟨.load 3 (.l 0), .push, none, true, 4, none⟩,
    ⟨.indexAddr 58 (.v 2) (.v 0), .push, none, true, 7, none⟩,
    ⟨.fieldAddr 57 (.l 0) 0, .push, none, true, 8, none⟩,
    ⟨.load 3 (.l 0), .push, none, true, 9, none⟩,
    ⟨.bin .lss 3 false false (.l 3) (.l 0), .push, none, false, 10, none⟩,
    ⟨.mv (.l 0), (.var 3), none, true, 11, none⟩]) .ret) .skip)) (.seq (.dreg 0 [0, 0, 3, 7, 15, 0, 0, 96, 224, 480, 1023] [⟨.indexAddr 58 (.v 1) (.v 0), .push, none, true, 2, none⟩,
    ⟨.fieldAddr 57 (.l 0) 1, .push, none, true, 3, none⟩,
    ⟨.load 25 (.l 0), .push, none, true, 4, none⟩,
    ⟨.indexAddr 58 (.v 2) (.v 0), .push, none, true, 7, none⟩,
    ⟨.fieldAddr 57 (.l 0) 1, .push, none, true, 8, none⟩,
    ⟨.load 25 (.l 0), .push, none, true, 9, none⟩,
    ⟨.bin .neq 25 false false (.l 3) (.l 0), .push, none, false, 10, none⟩]) (.cond (.l 0) (.seq (.dreg 0 [0, 0, 3, 7, 15, 0, 0, 96, 224, 480, 1023, 2047] [⟨.indexAddr 58 (.v 1) (.v 0), .push, none, true, 2, none⟩,
    ⟨.fieldAddr 57 (.l 0) 1, .push, none, true, 3, none⟩,
    ⟨.load 25 (.l 0), .push, none, true, 4, none⟩,
    ⟨.indexAddr 58 (.v 2) (.v 0), .push, none, true, 7, none⟩,
    ⟨.fieldAddr 57 (.l 0) 1, .push, none, true, 8, none⟩,
    ⟨.load 25 (.l 0), .push, none, true, 9, none⟩,
    ⟨.bin .lss 25 false false (.l 3) (.l 0), .push, none, false, 10, none⟩,
    ⟨.mv (.l 0), (.var 3), none, true, 11, none⟩]) .ret) .skip)))) (.reg [⟨.mv (.v 0), .push, none, true, 0, none⟩,
    ⟨.bin .add 3 false true (.l 0) (.k (.int .i64 1)), .push, none, false, 1, none⟩,
    ⟨.mv (.l 0), (.var 0), none, true, 2, none⟩])))))) (.seq (.reg [⟨.len 58 (.v 1), .push, none, false, 1, none⟩,
    ⟨.len 58 (.v 2), .push, none, false, 3, none⟩,
    ⟨.bin .lss 3 false false (.l 1) (.l 0), .push, none, false, 4, none⟩,
    ⟨.mv (.l 0), (.var 3), none, true, 5, none⟩]) .ret))), [.tmp (.v 3)]⟩
noncomputable def G89 (E : Env) : ZFn := ⟨67, [5, 0, 1, 4], fun cy Y fuel =>
  (zSeq (zReg fun k => (zDst (.var 3) (vMv (.k (.bool false)))) k)
  (zSeq (zSeq (zReg fun k => (zDst (.var 0) (vMv (.k (.int .i64 0)))) k)
  (zBlock 0 (zLoop fuel (zSeq (zSeq (zReg fun k => (zDst .push (vLenL (.v 1))) ((zDst .push (vInt E fLss .lss 3 false false (.v 0) (.l 0))) ((zG (.l 0) true .push (zDst .push (vMv (.v 0)))) ((zG (.l 1) true .push (zDst .push (vMv (.v 2)))) ((zG (.l 2) true .push (zDst .push (vLenL (.l 0)))) ((zG (.l 3) true .push (zDst .push (vInt E fLss .lss 3 false false (.l 2) (.l 0)))) ((zDst .push (vPick (.l 4) (.l 0) (.k (.bool false)))) k)))))))
  (zCond (.l 0) zSkip (zExit 0)))
  (zSeq (zBlock 1 (zSeq (zSeq (zDreg 0 fun n0 k => (fun k sp => zDst .push (vIndexAddr 2 (.v 1) (.v 0)) (k sp)) ((fun k sp => zDst .push (vFieldAddr 0 (.l 0)) (k sp)) ((zDstWD [0, 0, 3, 7, 15, 0, 0, 96, 224, 480, 1023] 4 .push (wLoad 1 false (.l 0))) ((fun k sp => zDst .push (vIndexAddr 2 (.v 2) (.v 0)) (k sp)) ((fun k sp => zDst .push (vFieldAddr 0 (.l 0)) (k sp)) ((zDstWD [0, 0, 3, 7, 15, 0, 0, 96, 224, 480, 1023] 9 .push (wLoad 1 false (.l 0))) ((fun k sp => zDst .push (vInt E fNeq .neq 3 false false (.l 3) (.l 0)) (k sp)) k)))))))
  (zCond (.l 0) (zSeq (zDreg 0 fun n0 k => (fun k sp => zDst .push (vIndexAddr 2 (.v 1) (.v 0)) (k sp)) ((fun k sp => zDst .push (vFieldAddr 0 (.l 0)) (k sp)) ((zDstWD [0, 0, 3, 7, 15, 0, 0, 96, 224, 480, 1023, 2047] 4 .push (wLoad 1 false (.l 0))) ((fun k sp => zDst .push (vIndexAddr 2 (.v 2) (.v 0)) (k sp)) ((fun k sp => zDst .push (vFieldAddr 0 (.l 0)) (k sp)) ((zDstWD [0, 0, 3, 7, 15, 0, 0, 96, 224, 480, 1023, 2047] 9 .push (wLoad 1 false (.l 0))) ((fun k sp => zDst .push (vInt E fLss .lss 3 false false (.l 3) (.l 0)) (k sp)) ((fun k sp => zDst (.var 3) (vMv (.l 0)) (k sp)) k))))))))
  zRet) zSkip))
  (zSeq (zDreg 0 fun n0 k => (fun k sp => zDst .push (vIndexAddr 2 (.v 1) (.v 0)) (k sp)) ((fun k sp => zDst .push (vFieldAddr 1 (.l 0)) (k sp)) ((zDstWD [0, 0, 3, 7, 15, 0, 0, 96, 224, 480, 1023] 4 .push (wLoad 1 false (.l 0))) ((fun k sp => zDst .push (vIndexAddr 2 (.v 2) (.v 0)) (k sp)) ((fun k sp => zDst .push (vFieldAddr 1 (.l 0)) (k sp)) ((zDstWD [0, 0, 3, 7, 15, 0, 0, 96, 224, 480, 1023] 9 .push (wLoad 1 false (.l 0))) ((fun k sp => zDst .push (vInt E fNeq .neq 25 false false (.l 3) (.l 0)) (k sp)) k)))))))
  (zCond (.l 0) (zSeq (zDreg 0 fun n0 k => (fun k sp => zDst .push (vIndexAddr 2 (.v 1) (.v 0)) (k sp)) ((fun k sp => zDst .push (vFieldAddr 1 (.l 0)) (k sp)) ((zDstWD [0, 0, 3, 7, 15, 0, 0, 96, 224, 480, 1023, 2047] 4 .push (wLoad 1 false (.l 0))) ((fun k sp => zDst .push (vIndexAddr 2 (.v 2) (.v 0)) (k sp)) ((fun k sp => zDst .push (vFieldAddr 1 (.l 0)) (k sp)) ((zDstWD [0, 0, 3, 7, 15, 0, 0, 96, 224, 480, 1023, 2047] 9 .push (wLoad 1 false (.l 0))) ((fun k sp => zDst .push (vInt E fLss .lss 25 false false (.l 3) (.l 0)) (k sp)) ((fun k sp => zDst (.var 3) (vMv (.l 0)) (k sp)) k))))))))
  zRet) zSkip))))
  (zReg fun k => (zDst .push (vMv (.v 0))) ((zDst .push (vInt E fAdd .add 3 false true (.l 0) (.k (.int .i64 1)))) ((zDst (.var 0) (vMv (.l 0))) k))))))))
  (zSeq (zReg fun k => (zDst .push (vLenL (.v 1))) ((zDst .push (vLenL (.v 2))) ((zDst .push (vInt E fLss .lss 3 false false (.l 1) (.l 0))) ((zDst (.var 3) (vMv (.l 0))) k))))
  zRet))), [.tmp (.v 3)]⟩
theorem G89_ok (fn : Nat → Option Func) (pu : Nat → Bool) (pr : Nat → List AV → Option (Heap → Option (Eff × Acc))) : ZOk ⟨Tryz.tyT, fn, pu, pr⟩ npT F89 (G89 ⟨Tryz.tyT, fn, pu, pr⟩) := ⟨rfl, rfl, rfl, fun cy Y k => by kernel_rfl⟩
noncomputable def F90 : FFn := ⟨20, [0, 1, 3, 2], (.seq (.reg [⟨.box 24 (.v 0), (.var 1), none, false, 0, (some 0)⟩,
    ⟨.alloc 30, (.var 3), none, false, 1, (some 1)⟩]) (.seq (.reg [⟨.alloc 30, (.var 2), none, false, 0, (some 0)⟩]) (.seq (.seq (.reg [⟨.fieldAddr 24 (.v 1) 0, .push, none, true, 0, none⟩,
    ⟨.load 3 (.l 0), .push, none, true, 1, none⟩,
    ⟨.bin .eql 3 false true (.l 0) (.k (.int .i64 5)), .push, none, false, 2, none⟩]) (.cond (.l 0) (.dreg 3 [0, 1, 3, 7, 15, 0, 32, 96, 224, 511, 1023, 2047, 4095] [⟨.fieldAddr 24 (.v 1) 1, .push, none, true, 0, none⟩,
    ⟨.load 22 (.l 0), .push, none, true, 1, none⟩,
    ⟨.indexAddr 22 (.l 0) (.k (.int .i64 0)), .push, none, true, 2, none⟩,
    ⟨.load 24 (.l 0), .push, none, true, 3, none⟩,
    ⟨.call 90 [(.l 0)], .push, none, false, 4, (some 0)⟩,
    ⟨.fieldAddr 24 (.v 1) 1, .push, none, true, 5, none⟩,
    ⟨.load 22 (.l 0), .push, none, true, 6, none⟩,
    ⟨.indexAddr 22 (.l 0) (.k (.int .i64 1)), .push, none, true, 7, none⟩,
    ⟨.load 24 (.l 0), .push, none, true, 8, none⟩,
    ⟨.call 90 [(.l 0)], .push, none, false, 9, (some 1)⟩,
    ⟨.buildSlice 28 2 [(0, (.l 5)), (1, (.l 0))], .push, none, false, 10, (some 2)⟩,
    ⟨.fieldAddr 30 (.v 2) 4, .push, none, true, 11, none⟩,
    ⟨.store 28 (.l 0) (.l 1), .none, none, false, 12, none⟩]) .skip)) (.seq (.reg [⟨.load 30 (.v 2), .push, none, true, 0, none⟩,
    ⟨.store 30 (.v 3) (.l 0), .none, none, false, 1, none⟩]) .ret)))), [.cell (.v 3) 30]⟩
noncomputable def G90 (E : Env) : ZFn := ⟨20, [0, 1, 3, 2], fun cy Y fuel =>
  (zSeq (zReg fun k => (zStep E (cy Y) ⟨.box 24 (.v 0), (.var 1), none, false, 0, (some 0)⟩) ((zStep E (cy Y) ⟨.alloc 30, (.var 3), none, false, 1, (some 1)⟩) k))
  (zSeq (zReg fun k => (zStep E (cy Y) ⟨.alloc 30, (.var 2), none, false, 0, (some 0)⟩) k)
  (zSeq (zSeq (zReg fun k => (zDst .push (vFieldAddr 0 (.v 1))) ((zDstW .push (wLoad 1 false (.l 0))) ((zDst .push (vInt E fEql .eql 3 false true (.l 0) (.k (.int .i64 5)))) k)))
  (zCond (.l 0) (zDreg 3 fun n0 k => (fun k sp => zDst .push (vFieldAddr 1 (.v 1)) (k sp)) ((zDstWD [0, 1, 3, 7, 15, 0, 32, 96, 224, 511, 1023, 2047, 4095] 1 .push (wLoad 1 false (.l 0))) ((fun k sp => zDst .push (vIndexAddr 2 (.l 0) (.k (.int .i64 0))) (k sp)) ((zDstWD [0, 1, 3, 7, 15, 0, 32, 96, 224, 511, 1023, 2047, 4095] 3 .push (wLoad 2 true (.l 0))) ((zCallD (cy Y) [0, 1, 3, 7, 15, 0, 32, 96, 224, 511, 1023, 2047, 4095] 4 90 [(.l 0)] .push) ((fun k sp => zDst .push (vFieldAddr 1 (.v 1)) (k sp)) ((zDstWD [0, 1, 3, 7, 15, 0, 32, 96, 224, 511, 1023, 2047, 4095] 6 .push (wLoad 1 false (.l 0))) ((fun k sp => zDst .push (vIndexAddr 2 (.l 0) (.k (.int .i64 1))) (k sp)) ((zDstWD [0, 1, 3, 7, 15, 0, 32, 96, 224, 511, 1023, 2047, 4095] 8 .push (wLoad 2 true (.l 0))) ((zCallD (cy Y) [0, 1, 3, 7, 15, 0, 32, 96, 224, 511, 1023, 2047, 4095] 9 90 [(.l 0)] .push) ((zStepD E (cy Y) [0, 1, 3, 7, 15, 0, 32, 96, 224, 511, 1023, 2047, 4095] n0 ⟨.buildSlice 28 2 [(0, (.l 5)), (1, (.l 0))], .push, none, false, 10, (some 2)⟩) ((fun k sp => zDst .push (vFieldAddr 4 (.v 2)) (k sp)) ((zStepD E (cy Y) [0, 1, 3, 7, 15, 0, 32, 96, 224, 511, 1023, 2047, 4095] n0 ⟨.store 28 (.l 0) (.l 1), .none, none, false, 12, none⟩) k))))))))))))) zSkip))
  (zSeq (zReg fun k => (zDstW .push (wLoad 5 true (.v 2))) ((zStep E (cy Y) ⟨.store 30 (.v 3) (.l 0), .none, none, false, 1, none⟩) k))
  zRet)))), [.cell (.v 3) 30]⟩
theorem G90_ok (fn : Nat → Option Func) (pu : Nat → Bool) (pr : Nat → List AV → Option (Heap → Option (Eff × Acc))) : ZOk ⟨Tryz.tyT, fn, pu, pr⟩ npT F90 (G90 ⟨Tryz.tyT, fn, pu, pr⟩) := ⟨rfl, rfl, rfl, fun cy Y k => by kernel_rfl⟩
noncomputable def F91 : FFn := ⟨16, [1, 7, 6, 5, 0, 4], (.seq (.reg [⟨.load 28 (.v 0), (.var 3), none, true, 0, none⟩,
    ⟨.len 28 (.v 3), (.var 2), none, false, 1, none⟩,
    ⟨.mv (.k (.int .i64 0)), (.var 1), none, true, 2, none⟩]) (.block 0 (.loop (.seq (.reg [⟨.bin .lss 3 false false (.v 1) (.v 2), .push, none, false, 0, none⟩]) (.seq (.cond (.l 0) .skip (.exit 0)) (.seq (.block 1 (.seq (.reg [⟨.indexAddr 28 (.v 3) (.v 1), .push, none, true, 0, none⟩,
    ⟨.load 30 (.l 0), .push, none, true, 1, none⟩,
    ⟨.alloc 30, (.var 5), none, false, 2, (some 0)⟩,
    ⟨.store 30 (.v 5) (.l 0), .none, none, false, 3, none⟩]) (.seq (.reg [⟨.load 30 (.v 5), .push, none, true, 1, none⟩,
    ⟨.callv (.v 4) [(.l 0)], .push, none, false, 2, (some 0)⟩,
    ⟨.un .not (.l 0), .push, none, false, 3, none⟩]) (.cond (.l 0) .ret .skip)))) (.reg [⟨.bin .add 3 false true (.v 1) (.k (.int .i64 1)), .push, none, false, 0, none⟩,
    ⟨.mv (.l 0), (.var 1), none, true, 1, none⟩]))))))), []⟩
noncomputable def G91 (E : Env) : ZFn := ⟨16, [1, 7, 6, 5, 0, 4], fun cy Y fuel =>
  (zSeq (zReg fun k => (zDstW (.var 3) (wLoad 1 false (.v 0))) ((zDst (.var 2) (vLenL (.v 3))) ((zDst (.var 1) (vMv (.k (.int .i64 0)))) k)))
  (zBlock 0 (zLoop fuel (zSeq (zReg fun k => (zDst .push (vInt E fLss .lss 3 false false (.v 1) (.v 2))) k)
  (zSeq (zCond (.l 0) zSkip (zExit 0))
  (zSeq (zBlock 1 (zSeq (zReg fun k => (zDst .push (vIndexAddr 5 (.v 3) (.v 1))) ((zDstW .push (wLoad 5 true (.l 0))) ((zStep E (cy Y) ⟨.alloc 30, (.var 5), none, false, 2, (some 0)⟩) ((zStep E (cy Y) ⟨.store 30 (.v 5) (.l 0), .none, none, false, 3, none⟩) k))))
  (zSeq (zReg fun k => (zDstW .push (wLoad 5 true (.v 5))) ((zStep E (cy Y) ⟨.callv (.v 4) [(.l 0)], .push, none, false, 2, (some 0)⟩) ((zDst .push (vNot (.l 0))) k)))
  (zCond (.l 0) zRet zSkip))))
  (zReg fun k => (zDst .push (vInt E fAdd .add 3 false true (.v 1) (.k (.int .i64 1)))) ((zDst (.var 1) (vMv (.l 0))) k)))))))), []⟩
theorem G91_ok (fn : Nat → Option Func) (pu : Nat → Bool) (pr : Nat → List AV → Option (Heap → Option (Eff × Acc))) : ZOk ⟨Tryz.tyT, fn, pu, pr⟩ npT F91 (G91 ⟨Tryz.tyT, fn, pu, pr⟩) := ⟨rfl, rfl, rfl, fun cy Y k => by kernel_rfl⟩
noncomputable def F92 : FFn := ⟨76, [0, 1, 2, 3, 9, 10, 4, 5, 6, 7], (.seq (.reg [⟨.box 24 (.v 0), (.var 3), none, false, 0, (some 0)⟩,
    ⟨.box 30 (.v 1), (.var 6), none, false, 1, (some 1)⟩,
    ⟨.box 30 (.v 2), (.var 7), none, false, 2, (some 2)⟩,
    ⟨.alloc 30, (.var 8), none, false, 3, (some 3)⟩,
    ⟨.mv (.k .nilIface), (.var 9), none, true, 4, none⟩]) (.seq (.seq (.reg [⟨.fieldAddr 24 (.v 3) 0, .push, none, true, 0, none⟩,
    ⟨.load 3 (.l 0), (.var 4), none, true, 1, none⟩]) (.block 0 (.seq (.seq (.reg [⟨.bin .eql 3 false true (.v 4) (.k (.int .i64 1)), .push, none, false, 0, none⟩,
    ⟨.mv (.l 0), (.var 5), none, true, 1, none⟩]) (.cond (.v 5) .skip (.reg [⟨.bin .eql 3 false true (.v 4) (.k (.int .i64 2)), .push, none, false, 0, none⟩,
    ⟨.mv (.l 0), (.var 5), none, true, 1, none⟩]))) (.cond (.v 5) (.reg [⟨.fieldAddr 30 (.v 6) 0, .push, none, true, 0, none⟩,
    ⟨.load 25 (.l 0), .push, none, true, 1, none⟩,
    ⟨.fieldAddr 30 (.v 7) 0, .push, none, true, 2, none⟩,
    ⟨.load 25 (.l 0), .push, none, true, 3, none⟩,
    ⟨.most true [(.l 2), (.l 0)], .push, none, false, 4, none⟩,
    ⟨.fieldAddr 30 (.v 8) 0, .push, none, true, 5, none⟩,
    ⟨.store 25 (.l 0) (.l 1), .none, none, false, 6, none⟩]) (.seq (.reg [⟨.bin .eql 3 false true (.v 4) (.k (.int .i64 3)), .push, none, false, 0, none⟩,
    ⟨.mv (.l 0), .push, none, true, 1, none⟩]) (.cond (.l 0) (.reg [⟨.fieldAddr 30 (.v 6) 2, .push, none, true, 0, none⟩,
    ⟨.load 26 (.l 0), .push, none, true, 1, none⟩,
    ⟨.fieldAddr 30 (.v 7) 2, .push, none, true, 2, none⟩,
    ⟨.load 26 (.l 0), .push, none, true, 3, none⟩,
    ⟨.call 122 [(.l 2), (.l 0)], .push, none, false, 4, (some 0)⟩,
    ⟨.fieldAddr 30 (.v 8) 2, .push, none, true, 5, none⟩,
    ⟨.store 26 (.l 0) (.l 1), .none, none, false, 6, none⟩]) (.seq (.reg [⟨.bin .eql 3 false true (.v 4) (.k (.int .i64 4)), .push, none, false, 0, none⟩,
    ⟨.mv (.l 0), .push, none, true, 1, none⟩]) (.cond (.l 0) (.reg [⟨.load 24 (.v 3), .push, none, true, 0, none⟩,
    ⟨.load 30 (.v 6), .push, none, true, 1, none⟩,
    ⟨.load 30 (.v 7), .push, none, true, 2, none⟩,
    ⟨.call 123 [(.l 2), (.l 1), (.l 0)], .push, none, false, 3, (some 0)⟩,
    ⟨.extract (.l 0) 0, .push, none, true, 5, none⟩,
    ⟨.extract (.l 1) 1, .push, none, true, 6, none⟩,
    ⟨.store 30 (.v 8) (.l 1), .none, none, false, 7, none⟩,
    ⟨.mv (.l 0), (.var 9), none, true, 8, none⟩]) (.seq (.reg [⟨.bin .eql 3 false true (.v 4) (.k (.int .i64 5)), .push, none, false, 0, none⟩,
    ⟨.mv (.l 0), .push, none, true, 1, none⟩]) (.cond (.l 0) (.reg [⟨.load 24 (.v 3), .push, none, true, 0, none⟩,
    ⟨.load 30 (.v 6), .push, none, true, 1, none⟩,
    ⟨.load 30 (.v 7), .push, none, true, 2, none⟩,
    ⟨.call 124 [(.l 2), (.l 1), (.l 0)], .push, none, false, 3, (some 0)⟩,
    ⟨.extract (.l 0) 0, .push, none, true, 5, none⟩,
    ⟨.extract (.l 1) 1, .push, none, true, 6, none⟩,
    ⟨.store 30 (.v 8) (.l 1), .none, none, false, 7, none⟩,
    ⟨.mv (.l 0), (.var 9), none, true, 8, none⟩]) (.seq (.reg [⟨.bin .eql 3 false true (.v 4) (.k (.int .i64 6)), .push, none, false, 0, none⟩,
    ⟨.mv (.l 0), .push, none, true, 1, none⟩]) (.cond (.l 0) (.reg [⟨.load 30 (.v 6), .push, none, true, 0, none⟩,
    ⟨.load 30 (.v 7), .push, none, true, 1, none⟩,
    ⟨.call 125 [(.l 1), (.l 0)], .push, none, false, 2, (some 0)⟩,
    ⟨.store 30 (.v 8) (.l 0), .none, none, false, 3, none⟩]) (.seq (.reg [⟨.bin .eql 3 false true (.v 4) (.k (.int .i64 7)), .push, none, false, 0, none⟩,
    ⟨.mv (.l 0), .push, none, true, 1, none⟩]) (.cond (.l 0) (.reg [⟨.load 30 (.v 6), .push, none, true, 0, none⟩,
    ⟨.load 30 (.v 7), .push, none, true, 1, none⟩,
    ⟨.call 126 [(.l 1), (.l 0)], .push, none, false, 2, (some 0)⟩,
    ⟨.store 30 (.v 8) (.l 0), .none, none, false, 3, none⟩]) (.seq (.reg [⟨.bin .eql 3 false true (.v 4) (.k (.int .i64 8)), .push, none, false, 0, none⟩,
    ⟨.mv (.l 0), .push, none, true, 1, none⟩]) (.cond (.l 0) (.reg [⟨.load 24 (.v 3), .push, none, true, 0, none⟩,
    ⟨.load 30 (.v 6), .push, none, true, 1, none⟩,
    ⟨.load 30 (.v 7), .push, none, true, 2, none⟩,
    ⟨.call 127 [(.l 2), (.l 1), (.l 0)], .push, none, false, 3, (some 0)⟩,
    ⟨.extract (.l 0) 0, .push, none, true, 5, none⟩,
    ⟨.extract (.l 1) 1, .push, none, true, 6, none⟩,
    ⟨.store 30 (.v 8) (.l 1), .none, none, false, 7, none⟩,
    ⟨.mv (.l 0), (.var 9), none, true, 8, none⟩]) .skip)))))))))))))))) (.seq (.seq (.reg [⟨.bin .eql 33 false true (.v 9) (.k .nilIface), .push, none, false, 1, none⟩,
    ⟨.load 30 (.v 8), .push, (some ((.l 0), true)), true, 3, none⟩,
    ⟨.call 128 [(.l 0)], .push, (some ((.l 1), true)), false, 4, (some 0)⟩,
    ⟨.pick (.l 2) (.l 0) (.k (.bool false)), .push, none, true, 5, none⟩]) (.cond (.l 0) (.reg [⟨.mkIface 62 (.k (.int .i64 13)), .push, none, false, 0, none⟩,
    ⟨.mv (.l 0), (.var 9), none, true, 1, none⟩]) .skip)) (.seq (.seq (.reg [⟨.bin .neq 33 false true (.v 9) (.k .nilIface), .push, none, false, 1, none⟩]) (.cond (.l 0) (.seq (.reg [⟨.build 30 [], .push, none, false, 0, none⟩,
    ⟨.mv (.v 9), .push, none, true, 1, none⟩,
    ⟨.store 30 (.v 8) (.l 1), .none, none, false, 2, none⟩,
    ⟨.mv (.l 0), (.var 9), none, true, 3, none⟩]) .ret) .skip)) (.seq (.reg [⟨.load 30 (.v 8), .push, none, true, 0, none⟩,
    ⟨.store 30 (.v 8) (.l 0), .none, none, false, 1, none⟩,
    ⟨.mv (.k .nilIface), (.var 9), none, true, 2, none⟩]) .ret))))), [.cell (.v 8) 30, .tmp (.v 9)]⟩
noncomputable def G92 (E : Env) : ZFn := ⟨76, [0, 1, 2, 3, 9, 10, 4, 5, 6, 7], fun cy Y fuel =>
  (zSeq (zReg fun k => (zStep E (cy Y) ⟨.box 24 (.v 0), (.var 3), none, false, 0, (some 0)⟩) ((zStep E (cy Y) ⟨.box 30 (.v 1), (.var 6), none, false, 1, (some 1)⟩) ((zStep E (cy Y) ⟨.box 30 (.v 2), (.var 7), none, false, 2, (some 2)⟩) ((zStep E (cy Y) ⟨.alloc 30, (.var 8), none, false, 3, (some 3)⟩) ((zDst (.var 9) (vMv (.k .nilIface))) k)))))
  (zSeq (zSeq (zReg fun k => (zDst .push (vFieldAddr 0 (.v 3))) ((zDstW (.var 4) (wLoad 1 false (.l 0))) k))
  (zBlock 0 (zSeq (zSeq (zReg fun k => (zDst .push (vInt E fEql .eql 3 false true (.v 4) (.k (.int .i64 1)))) ((zDst (.var 5) (vMv (.l 0))) k))
  (zCond (.v 5) zSkip (zReg fun k => (zDst .push (vInt E fEql .eql 3 false true (.v 4) (.k (.int .i64 2)))) ((zDst (.var 5) (vMv (.l 0))) k))))
  (zCond (.v 5) (zReg fun k => (zDst .push (vFieldAddr 0 (.v 6))) ((zDstW .push (wLoad 1 false (.l 0))) ((zDst .push (vFieldAddr 0 (.v 7))) ((zDstW .push (wLoad 1 false (.l 0))) ((zStep E (cy Y) ⟨.most true [(.l 2), (.l 0)], .push, none, false, 4, none⟩) ((zDst .push (vFieldAddr 0 (.v 8))) ((zStep E (cy Y) ⟨.store 25 (.l 0) (.l 1), .none, none, false, 6, none⟩) k))))))) (zSeq (zReg fun k => (zDst .push (vInt E fEql .eql 3 false true (.v 4) (.k (.int .i64 3)))) ((zDst .push (vMv (.l 0))) k))
  (zCond (.l 0) (zReg fun k => (zDst .push (vFieldAddr 2 (.v 6))) ((zDstW .push (wLoad 1 false (.l 0))) ((zDst .push (vFieldAddr 2 (.v 7))) ((zDstW .push (wLoad 1 false (.l 0))) ((zCall (cy Y) 122 [(.l 2), (.l 0)] .push) ((zDst .push (vFieldAddr 2 (.v 8))) ((zStep E (cy Y) ⟨.store 26 (.l 0) (.l 1), .none, none, false, 6, none⟩) k))))))) (zSeq (zReg fun k => (zDst .push (vInt E fEql .eql 3 false true (.v 4) (.k (.int .i64 4)))) ((zDst .push (vMv (.l 0))) k))
  (zCond (.l 0) (zReg fun k => (zDstW .push (wLoad 2 true (.v 3))) ((zDstW .push (wLoad 5 true (.v 6))) ((zDstW .push (wLoad 5 true (.v 7))) ((zCall (cy Y) 123 [(.l 2), (.l 1), (.l 0)] .push) ((zDst .push (vExtract 0 (.l 0))) ((zDst .push (vExtract 1 (.l 1))) ((zStep E (cy Y) ⟨.store 30 (.v 8) (.l 1), .none, none, false, 7, none⟩) ((zDst (.var 9) (vMv (.l 0))) k)))))))) (zSeq (zReg fun k => (zDst .push (vInt E fEql .eql 3 false true (.v 4) (.k (.int .i64 5)))) ((zDst .push (vMv (.l 0))) k))
  (zCond (.l 0) (zReg fun k => (zDstW .push (wLoad 2 true (.v 3))) ((zDstW .push (wLoad 5 true (.v 6))) ((zDstW .push (wLoad 5 true (.v 7))) ((zCall (cy Y) 124 [(.l 2), (.l 1), (.l 0)] .push) ((zDst .push (vExtract 0 (.l 0))) ((zDst .push (vExtract 1 (.l 1))) ((zStep E (cy Y) ⟨.store 30 (.v 8) (.l 1), .none, none, false, 7, none⟩) ((zDst (.var 9) (vMv (.l 0))) k)))))))) (zSeq (zReg fun k => (zDst .push (vInt E fEql .eql 3 false true (.v 4) (.k (.int .i64 6)))) ((zDst .push (vMv (.l 0))) k))
  (zCond (.l 0) (zReg fun k => (zDstW .push (wLoad 5 true (.v 6))) ((zDstW .push (wLoad 5 true (.v 7))) ((zCall (cy Y) 125 [(.l 1), (.l 0)] .push) ((zStep E (cy Y) ⟨.store 30 (.v 8) (.l 0), .none, none, false, 3, none⟩) k)))) (zSeq (zReg fun k => (zDst .push (vInt E fEql .eql 3 false true (.v 4) (.k (.int .i64 7)))) ((zDst .push (vMv (.l 0))) k))
  (zCond (.l 0) (zReg fun k => (zDstW .push (wLoad 5 true (.v 6))) ((zDstW .push (wLoad 5 true (.v 7))) ((zCall (cy Y) 126 [(.l 1), (.l 0)] .push) ((zStep E (cy Y) ⟨.store 30 (.v 8) (.l 0), .none, none, false, 3, none⟩) k)))) (zSeq (zReg fun k => (zDst .push (vInt E fEql .eql 3 false true (.v 4) (.k (.int .i64 8)))) ((zDst .push (vMv (.l 0))) k))
  (zCond (.l 0) (zReg fun k => (zDstW .push (wLoad 2 true (.v 3))) ((zDstW .push (wLoad 5 true (.v 6))) ((zDstW .push (wLoad 5 true (.v 7))) ((zCall (cy Y) 127 [(.l 2), (.l 1), (.l 0)] .push) ((zDst .push (vExtract 0 (.l 0))) ((zDst .push (vExtract 1 (.l 1))) ((zStep E (cy Y) ⟨.store 30 (.v 8) (.l 1), .none, none, false, 7, none⟩) ((zDst (.var 9) (vMv (.l 0))) k)))))))) zSkip))))))))))))))))
  (zSeq (zSeq (zReg fun k => (zDst .push (vInt E fEql .eql 33 false true (.v 9) (.k .nilIface))) ((zG (.l 0) true .push (zDstW .push (wLoad 5 true (.v 8)))) ((zG (.l 1) true .push (zCall (cy Y) 128 [(.l 0)] .push)) ((zDst .push (vPick (.l 2) (.l 0) (.k (.bool false)))) k))))
  (zCond (.l 0) (zReg fun k => (zStep E (cy Y) ⟨.mkIface 62 (.k (.int .i64 13)), .push, none, false, 0, none⟩) ((zDst (.var 9) (vMv (.l 0))) k)) zSkip))
  (zSeq (zSeq (zReg fun k => (zDst .push (vInt E fNeq .neq 33 false true (.v 9) (.k .nilIface))) k)
  (zCond (.l 0) (zSeq (zReg fun k => (zStep E (cy Y) ⟨.build 30 [], .push, none, false, 0, none⟩) ((zDst .push (vMv (.v 9))) ((zStep E (cy Y) ⟨.store 30 (.v 8) (.l 1), .none, none, false, 2, none⟩) ((zDst (.var 9) (vMv (.l 0))) k))))
  zRet) zSkip))
  (zSeq (zReg fun k => (zDstW .push (wLoad 5 true (.v 8))) ((zStep E (cy Y) ⟨.store 30 (.v 8) (.l 0), .none, none, false, 1, none⟩) ((zDst (.var 9) (vMv (.k .nilIface))) k)))
  zRet))))), [.cell (.v 8) 30, .tmp (.v 9)]⟩
theorem G92_ok (fn : Nat → Option Func) (pu : Nat → Bool) (pr : Nat → List AV → Option (Heap → Option (Eff × Acc))) : ZOk ⟨Tryz.tyT, fn, pu, pr⟩ npT F92 (G92 ⟨Tryz.tyT, fn, pu, pr⟩) := ⟨rfl, rfl, rfl, fun cy Y k => by kernel_rfl⟩
noncomputable def F93 : FFn := ⟨15, [0, 3, 4, 10, 2], (.seq (.reg [⟨.mv (.k (.int .i64 0)), (.var 4), none, true, 0, none⟩]) (.seq (.seq (.reg [⟨.mv (.v 0), (.var 1), none, true, 0, none⟩]) (.block 0 (.seq (.seq (.reg [⟨.bin .eql 3 false true (.v 1) (.k (.int .i64 1)), .push, none, false, 0, none⟩,
    ⟨.mv (.l 0), (.var 2), none, true, 1, none⟩]) (.cond (.v 2) .skip (.seq (.reg [⟨.bin .eql 3 false true (.v 1) (.k (.int .i64 2)), .push, none, false, 0, none⟩,
    ⟨.mv (.l 0), (.var 2), none, true, 1, none⟩]) (.cond (.v 2) .skip (.seq (.reg [⟨.bin .eql 3 false true (.v 1) (.k (.int .i64 3)), .push, none, false, 0, none⟩,
    ⟨.mv (.l 0), (.var 2), none, true, 1, none⟩]) (.cond (.v 2) .skip (.seq (.reg [⟨.bin .eql 3 false true (.v 1) (.k (.int .i64 6)), .push, none, false, 0, none⟩,
    ⟨.mv (.l 0), (.var 2), none, true, 1, none⟩]) (.cond (.v 2) .skip (.reg [⟨.bin .eql 3 false true (.v 1) (.k (.int .i64 7)), .push, none, false, 0, none⟩,
    ⟨.mv (.l 0), (.var 2), none, true, 1, none⟩]))))))))) (.cond (.v 2) (.seq (.reg [⟨.mv (.k (.int .i64 0)), (.var 4), none, true, 0, none⟩]) .ret) (.seq (.seq (.reg [⟨.bin .eql 3 false true (.v 1) (.k (.int .i64 4)), .push, none, false, 0, none⟩,
    ⟨.mv (.l 0), (.var 3), none, true, 1, none⟩]) (.cond (.v 3) .skip (.reg [⟨.bin .eql 3 false true (.v 1) (.k (.int .i64 8)), .push, none, false, 0, none⟩,
    ⟨.mv (.l 0), (.var 3), none, true, 1, none⟩]))) (.cond (.v 3) (.seq (.reg [⟨.mv (.k (.int .i64 1)), (.var 4), none, true, 0, none⟩]) .ret) (.seq (.reg [⟨.bin .eql 3 false true (.v 1) (.k (.int .i64 5)), .push, none, false, 0, none⟩,
    ⟨.mv (.l 0), .push, none, true, 1, none⟩]) (.cond (.l 0) (.seq (.reg [⟨.mv (.k (.int .i64 2)), (.var 4), none, true, 0, none⟩]) .ret) .skip)))))))) (.seq (.reg [⟨.mv (.k (.int .i64 (-1))), (.var 4), none, true, 0, none⟩]) .ret))), [.tmp (.v 4)]⟩
noncomputable def G93 (E : Env) : ZFn := ⟨15, [0, 3, 4, 10, 2], fun cy Y fuel =>
  (zSeq (zReg fun k => (zDst (.var 4) (vMv (.k (.int .i64 0)))) k)
  (zSeq (zSeq (zReg fun k => (zDst (.var 1) (vMv (.v 0))) k)
  (zBlock 0 (zSeq (zSeq (zReg fun k => (zDst .push (vInt E fEql .eql 3 false true (.v 1) (.k (.int .i64 1)))) ((zDst (.var 2) (vMv (.l 0))) k))
  (zCond (.v 2) zSkip (zSeq (zReg fun k => (zDst .push (vInt E fEql .eql 3 false true (.v 1) (.k (.int .i64 2)))) ((zDst (.var 2) (vMv (.l 0))) k))
  (zCond (.v 2) zSkip (zSeq (zReg fun k => (zDst .push (vInt E fEql .eql 3 false true (.v 1) (.k (.int .i64 3)))) ((zDst (.var 2) (vMv (.l 0))) k))
  (zCond (.v 2) zSkip (zSeq (zReg fun k => (zDst .push (vInt E fEql .eql 3 false true (.v 1) (.k (.int .i64 6)))) ((zDst (.var 2) (vMv (.l 0))) k))
  (zCond (.v 2) zSkip (zReg fun k => (zDst .push (vInt E fEql .eql 3 false true (.v 1) (.k (.int .i64 7)))) ((zDst (.var 2) (vMv (.l 0))) k))))))))))
  (zCond (.v 2) (zSeq (zReg fun k => (zDst (.var 4) (vMv (.k (.int .i64 0)))) k)
  zRet) (zSeq (zSeq (zReg fun k => (zDst .push (vInt E fEql .eql 3 false true (.v 1) (.k (.int .i64 4)))) ((zDst (.var 3) (vMv (.l 0))) k))
  (zCond (.v 3) zSkip (zReg fun k => (zDst .push (vInt E fEql .eql 3 false true (.v 1) (.k (.int .i64 8)))) ((zDst (.var 3) (vMv (.l 0))) k))))
  (zCond (.v 3) (zSeq (zReg fun k => (zDst (.var 4) (vMv (.k (.int .i64 1)))) k)
  zRet) (zSeq (zReg fun k => (zDst .push (vInt E fEql .eql 3 false true (.v 1) (.k (.int .i64 5)))) ((zDst .push (vMv (.l 0))) k))
  (zCond (.l 0) (zSeq (zReg fun k => (zDst (.var 4) (vMv (.k (.int .i64 2)))) k)
  zRet) zSkip))))))))
  (zSeq (zReg fun k => (zDst (.var 4) (vMv (.k (.int .i64 (-1))))) k)
  zRet))), [.tmp (.v 4)]⟩
theorem G93_ok (fn : Nat → Option Func) (pu : Nat → Bool) (pr : Nat → List AV → Option (Heap → Option (Eff × Acc))) : ZOk ⟨Tryz.tyT, fn, pu, pr⟩ npT F93 (G93 ⟨Tryz.tyT, fn, pu, pr⟩) := ⟨rfl, rfl, rfl, fun cy Y k => by kernel_rfl⟩
noncomputable def F94 : FFn := ⟨54, [0, 1, 6, 2, 3, 4, 5, 12], (.seq (.reg [⟨.box 30 (.v 0), (.var 2), none, false, 0, (some 0)⟩,
    ⟨.mv (.k (.bool false)), (.var 7), none, true, 1, none⟩]) (.seq (.reg [⟨.fieldAddr 30 (.v 2) 0, .push, (some ((.v 1), false)), true, 2, none⟩,
    ⟨.load 25 (.l 0), .push, (some ((.v 1), false)), true, 3, none⟩,
    ⟨.bin .eql 25 false true (.l 0) (.k (.int .u64 0)), .push, (some ((.v 1), false)), false, 4, none⟩,
    ⟨.pick (.v 1) (.k (.bool true)) (.l 0), .push, none, true, 5, none⟩,
    ⟨.mv (.v 3), .push, (some ((.l 0), true)), true, 7, none⟩,
    ⟨.mv (.l 0), .push, (some ((.l 1), true)), true, 8, none⟩,
    ⟨.fieldAddr 30 (.v 2) 1, .push, (some ((.l 0), false)), true, 9, none⟩,
    ⟨.load 25 (.l 0), .push, (some ((.l 1), false)), true, 10, none⟩,
    ⟨.bin .eql 25 false true (.l 0) (.k (.int .u64 0)), .push, (some ((.l 2), false)), false, 11, none⟩,
    ⟨.pick (.l 3) (.k (.bool true)) (.l 0), .push, (some ((.l 5), true)), true, 12, none⟩,
    ⟨.pick (.l 6) (.l 0) (.k (.bool false)), .push, none, true, 13, none⟩,
    ⟨.mv (.v 4), .push, (some ((.l 0), true)), true, 15, none⟩,
    ⟨.mv (.l 0), .push, (some ((.l 1), true)), true, 16, none⟩,
    ⟨.fieldAddr 30 (.v 2) 2, .push, (some ((.l 0), false)), true, 17, none⟩,
    ⟨.load 26 (.l 0), .push, (some ((.l 1), false)), true, 18, none⟩,
    ⟨.len 26 (.l 0), .push, (some ((.l 2), false)), false, 19, none⟩,
    ⟨.bin .eql 3 false true (.l 0) (.k (.int .i64 0)), .push, (some ((.l 3), false)), false, 20, none⟩,
    ⟨.pick (.l 4) (.k (.bool true)) (.l 0), .push, (some ((.l 6), true)), true, 21, none⟩,
    ⟨.pick (.l 7) (.l 0) (.k (.bool false)), .push, none, true, 22, none⟩,
    ⟨.mv (.v 5), .push, (some ((.l 0), true)), true, 24, none⟩,
    ⟨.mv (.l 0), .push, (some ((.l 1), true)), true, 25, none⟩,
    ⟨.fieldAddr 30 (.v 2) 3, .push, (some ((.l 0), false)), true, 26, none⟩,
    ⟨.load 27 (.l 0), .push, (some ((.l 1), false)), true, 27, none⟩,
    ⟨.len 27 (.l 0), .push, (some ((.l 2), false)), false, 28, none⟩,
    ⟨.bin .eql 3 false true (.l 0) (.k (.int .i64 0)), .push, (some ((.l 3), false)), false, 29, none⟩,
    ⟨.pick (.l 4) (.k (.bool true)) (.l 0), .push, (some ((.l 6), true)), true, 30, none⟩,
    ⟨.pick (.l 7) (.l 0) (.k (.bool false)), .push, none, true, 31, none⟩,
    ⟨.mv (.v 6), .push, (some ((.l 0), true)), true, 33, none⟩,
    ⟨.mv (.l 0), .push, (some ((.l 1), true)), true, 34, none⟩,
    ⟨.fieldAddr 30 (.v 2) 4, .push, (some ((.l 0), false)), true, 35, none⟩,
    ⟨.load 28 (.l 0), .push, (some ((.l 1), false)), true, 36, none⟩,
    ⟨.len 28 (.l 0), .push, (some ((.l 2), false)), false, 37, none⟩,
    ⟨.bin .eql 3 false true (.l 0) (.k (.int .i64 0)), .push, (some ((.l 3), false)), false, 38, none⟩,
    ⟨.pick (.l 4) (.k (.bool true)) (.l 0), .push, (some ((.l 6), true)), true, 39, none⟩,
    ⟨.pick (.l 7) (.l 0) (.k (.bool false)), .push, none, true, 40, none⟩,
    ⟨.mv (.l 0), (.var 7), none, true, 41, none⟩]) .ret)), [.tmp (.v 7)]⟩
noncomputable def G94 (E : Env) : ZFn := ⟨54, [0, 1, 6, 2, 3, 4, 5, 12], fun cy Y fuel =>
  (zSeq (zReg fun k => (zStep E (cy Y) ⟨.box 30 (.v 0), (.var 2), none, false, 0, (some 0)⟩) ((zDst (.var 7) (vMv (.k (.bool false)))) k))
  (zSeq (zReg fun k => (zG (.v 1) false .push (zDst .push (vFieldAddr 0 (.v 2)))) ((zG (.v 1) false .push (zDstW .push (wLoad 1 false (.l 0)))) ((zG (.v 1) false .push (zDst .push (vInt E fEql .eql 25 false true (.l 0) (.k (.int .u64 0))))) ((zDst .push (vPick (.v 1) (.k (.bool true)) (.l 0))) ((zG (.l 0) true .push (zDst .push (vMv (.v 3)))) ((zG (.l 1) true .push (zDst .push (vMv (.l 0)))) ((zG (.l 0) false .push (zDst .push (vFieldAddr 1 (.v 2)))) ((zG (.l 1) false .push (zDstW .push (wLoad 1 false (.l 0)))) ((zG (.l 2) false .push (zDst .push (vInt E fEql .eql 25 false true (.l 0) (.k (.int .u64 0))))) ((zG (.l 5) true .push (zDst .push (vPick (.l 3) (.k (.bool true)) (.l 0)))) ((zDst .push (vPick (.l 6) (.l 0) (.k (.bool false)))) ((zG (.l 0) true .push (zDst .push (vMv (.v 4)))) ((zG (.l 1) true .push (zDst .push (vMv (.l 0)))) ((zG (.l 0) false .push (zDst .push (vFieldAddr 2 (.v 2)))) ((zG (.l 1) false .push (zDstW .push (wLoad 1 false (.l 0)))) ((zG (.l 2) false .push (zDst .push (vLenL (.l 0)))) ((zG (.l 3) false .push (zDst .push (vInt E fEql .eql 3 false true (.l 0) (.k (.int .i64 0))))) ((zG (.l 6) true .push (zDst .push (vPick (.l 4) (.k (.bool true)) (.l 0)))) ((zDst .push (vPick (.l 7) (.l 0) (.k (.bool false)))) ((zG (.l 0) true .push (zDst .push (vMv (.v 5)))) ((zG (.l 1) true .push (zDst .push (vMv (.l 0)))) ((zG (.l 0) false .push (zDst .push (vFieldAddr 3 (.v 2)))) ((zG (.l 1) false .push (zDstW .push (wLoad 1 false (.l 0)))) ((zG (.l 2) false .push (zDst .push (vLenL (.l 0)))) ((zG (.l 3) false .push (zDst .push (vInt E fEql .eql 3 false true (.l 0) (.k (.int .i64 0))))) ((zG (.l 6) true .push (zDst .push (vPick (.l 4) (.k (.bool true)) (.l 0)))) ((zDst .push (vPick (.l 7) (.l 0) (.k (.bool false)))) ((zG (.l 0) true .push (zDst .push (vMv (.v 6)))) ((zG (.l 1) true .push (zDst .push (vMv (.l 0)))) ((zG (.l 0) false .push (zDst .push (vFieldAddr 4 (.v 2)))) ((zG (.l 1) false .push (zDstW .push (wLoad 1 false (.l 0)))) ((zG (.l 2) false .push (zDst .push (vLenL (.l 0)))) ((zG (.l 3) false .push (zDst .push (vInt E fEql .eql 3 false true (.l 0) (.k (.int .i64 0))))) ((zG (.l 6) true .push (zDst .push (vPick (.l 4) (.k (.bool true)) (.l 0)))) ((zDst .push (vPick (.l 7) (.l 0) (.k (.bool false)))) ((zDst (.var 7) (vMv (.l 0))) k))))))))))))))))))))))))))))))))))))
  zRet)), [.tmp (.v 7)]⟩
theorem G94_ok (fn : Nat → Option Func) (pu : Nat → Bool) (pr : Nat → List AV → Option (Heap → Option (Eff × Acc))) : ZOk ⟨Tryz.tyT, fn, pu, pr⟩ npT F94 (G94 ⟨Tryz.tyT, fn, pu, pr⟩) := ⟨rfl, rfl, rfl, fun cy Y k => by kernel_rfl⟩
noncomputable def F95 : FFn := ⟨16, [3, 0, 2], (.seq (.reg [⟨.mv (.k (.bool false)), (.var 2), none, true, 0, none⟩]) (.seq (.seq (.reg [⟨.mv (.k (.int .i64 0)), (.var 0), none, true, 0, none⟩]) (.block 0 (.loop (.seq (.seq (.reg [⟨.len 26 (.v 1), .push, none, false, 2, none⟩,
    ⟨.bin .lss 3 false false (.v 0) (.l 0), .push, none, false, 3, none⟩]) (.cond (.l 0) .skip (.exit 0))) (.seq (.block 1 (.seq (.reg [⟨.indexAddr 26 (.v 1) (.v 0), .push, none, true, 2, none⟩,
    ⟨.load 9 (.l 0), .push, none, true, 3, none⟩,
    ⟨.len 9 (.l 0), .push, none, false, 4, none⟩,
    ⟨.bin .gtr 3 false true (.l 0) (.k (.int .i64 16)), .push, none, false, 5, none⟩]) (.cond (.l 0) (.seq (.reg [⟨.mv (.k (.bool false)), (.var 2), none, true, 0, none⟩]) .ret) .skip))) (.reg [⟨.mv (.v 0), .push, none, true, 0, none⟩,
    ⟨.bin .add 3 false true (.l 0) (.k (.int .i64 1)), .push, none, false, 1, none⟩,
    ⟨.mv (.l 0), (.var 0), none, true, 2, none⟩])))))) (.seq (.reg [⟨.mv (.k (.bool true)), (.var 2), none, true, 0, none⟩]) .ret))), [.tmp (.v 2)]⟩
noncomputable def G95 (E : Env) : ZFn := ⟨16, [3, 0, 2], fun cy Y fuel =>
  (zSeq (zReg fun k => (zDst (.var 2) (vMv (.k (.bool false)))) k)
  (zSeq (zSeq (zReg fun k => (zDst (.var 0) (vMv (.k (.int .i64 0)))) k)
  (zBlock 0 (zLoop fuel (zSeq (zSeq (zReg fun k => (zDst .push (vLenL (.v 1))) ((zDst .push (vInt E fLss .lss 3 false false (.v 0) (.l 0))) k))
  (zCond (.l 0) zSkip (zExit 0)))
  (zSeq (zBlock 1 (zSeq (zReg fun k => (zDst .push (vIndexAddr 1 (.v 1) (.v 0))) ((zDstW .push (wLoad 1 false (.l 0))) ((zDst .push (vLenS (.l 0))) ((zDst .push (vInt E fGtr .gtr 3 false true (.l 0) (.k (.int .i64 16)))) k))))
  (zCond (.l 0) (zSeq (zReg fun k => (zDst (.var 2) (vMv (.k (.bool false)))) k)
  zRet) zSkip)))
  (zReg fun k => (zDst .push (vMv (.v 0))) ((zDst .push (vInt E fAdd .add 3 false true (.l 0) (.k (.int .i64 1)))) ((zDst (.var 0) (vMv (.l 0))) k))))))))
  (zSeq (zReg fun k => (zDst (.var 2) (vMv (.k (.bool true)))) k)
  zRet))), [.tmp (.v 2)]⟩
theorem G95_ok (fn : Nat → Option Func) (pu : Nat → Bool) (pr : Nat → List AV → Option (Heap → Option (Eff × Acc))) : ZOk ⟨Tryz.tyT, fn, pu, pr⟩ npT F95 (G95 ⟨Tryz.tyT, fn, pu, pr⟩) := ⟨rfl, rfl, rfl, fun cy Y k => by kernel_rfl⟩
noncomputable def F96 : FFn := ⟨20, [0, 1, 5, 6, 4], (.seq (.reg [⟨.mv (.k (.int .i64 0)), (.var 4), none, true, 0, none⟩]) (.seq (.reg [⟨.call 129 [(.v 0)], .push, none, false, 1, (some 0)⟩,
    ⟨.mv (.l 0), (.var 2), none, true, 2, none⟩]) (.seq (.reg [⟨.call 129 [(.v 1)], .push, none, false, 1, (some 0)⟩,
    ⟨.mv (.l 0), (.var 3), none, true, 2, none⟩]) (.seq (.seq (.reg []) (.cond (.v 2) (.seq (.seq (.reg []) (.cond (.v 3) (.seq (.reg [⟨.mv (.k (.int .i64 0)), (.var 4), none, true, 0, none⟩]) .ret) .skip)) (.seq (.reg [⟨.mv (.k (.int .i64 (-1))), (.var 4), none, true, 0, none⟩]) .ret)) .skip)) (.seq (.seq (.reg []) (.cond (.v 3) (.seq (.reg [⟨.mv (.k (.int .i64 1)), (.var 4), none, true, 0, none⟩]) .ret) .skip)) (.seq (.seq (.reg [⟨.bin .lss 3 false false (.v 0) (.v 1), .push, none, false, 2, none⟩]) (.cond (.l 0) (.seq (.reg [⟨.mv (.k (.int .i64 (-1))), (.var 4), none, true, 0, none⟩]) .ret) .skip)) (.seq (.seq (.reg [⟨.bin .gtr 3 false false (.v 0) (.v 1), .push, none, false, 2, none⟩]) (.cond (.l 0) (.seq (.reg [⟨.mv (.k (.int .i64 1)), (.var 4), none, true, 0, none⟩]) .ret) .skip)) (.seq (.reg [⟨.mv (.k (.int .i64 0)), (.var 4), none, true, 0, none⟩]) .ret)))))))), [.tmp (.v 4)]⟩
noncomputable def G96 (E : Env) : ZFn := ⟨20, [0, 1, 5, 6, 4], fun cy Y fuel =>
  (zSeq (zReg fun k => (zDst (.var 4) (vMv (.k (.int .i64 0)))) k)
  (zSeq (zReg fun k => (zCall (cy Y) 129 [(.v 0)] .push) ((zDst (.var 2) (vMv (.l 0))) k))
  (zSeq (zReg fun k => (zCall (cy Y) 129 [(.v 1)] .push) ((zDst (.var 3) (vMv (.l 0))) k))
  (zSeq (zSeq (zReg fun k => k)
  (zCond (.v 2) (zSeq (zSeq (zReg fun k => k)
  (zCond (.v 3) (zSeq (zReg fun k => (zDst (.var 4) (vMv (.k (.int .i64 0)))) k)
  zRet) zSkip))
  (zSeq (zReg fun k => (zDst (.var 4) (vMv (.k (.int .i64 (-1))))) k)
  zRet)) zSkip))
  (zSeq (zSeq (zReg fun k => k)
  (zCond (.v 3) (zSeq (zReg fun k => (zDst (.var 4) (vMv (.k (.int .i64 1)))) k)
  zRet) zSkip))
  (zSeq (zSeq (zReg fun k => (zDst .push (vInt E fLss .lss 3 false false (.v 0) (.v 1))) k)
  (zCond (.l 0) (zSeq (zReg fun k => (zDst (.var 4) (vMv (.k (.int .i64 (-1))))) k)
  zRet) zSkip))
  (zSeq (zSeq (zReg fun k => (zDst .push (vInt E fGtr .gtr 3 false false (.v 0) (.v 1))) k)
  (zCond (.l 0) (zSeq (zReg fun k => (zDst (.var 4) (vMv (.k (.int .i64 1)))) k)
  zRet) zSkip))
  (zSeq (zReg fun k => (zDst (.var 4) (vMv (.k (.int .i64 0)))) k)
  zRet)))))))), [.tmp (.v 4)]⟩
theorem G96_ok (fn : Nat → Option Func) (pu : Nat → Bool) (pr : Nat → List AV → Option (Heap → Option (Eff × Acc))) : ZOk ⟨Tryz.tyT, fn, pu, pr⟩ npT F96 (G96 ⟨Tryz.tyT, fn, pu, pr⟩) := ⟨rfl, rfl, rfl, fun cy Y k => by kernel_rfl⟩
noncomputable def F97 : FFn := ⟨49, [1, 6, 2, 7, 0], (.seq (.reg [⟨.bin .add 3 false true (.v 0) (.k (.int .i64 1)), .push, none, false, 1, none⟩,
    ⟨.mv (.l 0), (.var 1), none, true, 2, none⟩]) (.block 0 (.loop (.seq (.seq (.reg [⟨.bin .lss 3 false false (.v 1) (.v 2), .push, none, false, 2, none⟩]) (.cond (.l 0) .skip (.exit 0))) (.seq (.block 1 (.seq (.reg [⟨.mv (.v 1), (.var 3), none, true, 1, none⟩]) (.block 2 (.loop (.seq (.seq (.dreg 1 [0, 0, 3, 7, 15, 15, 63, 127, 15, 15, 527, 1807, 3855, 8191, 16383] [⟨.bin .gtr 3 false false (.v 3) (.v 0), .push, none, false, 2, none⟩,
    ⟨.mv (.v 4), .push, (some ((.l 0), true)), true, 4, none⟩,
    ⟨.mv (.v 3), .push, (some ((.l 1), true)), true, 5, none⟩,
    ⟨.indexAddr 26 (.l 1) (.l 0), .push, (some ((.l 2), true)), true, 6, none⟩,
    ⟨.load 9 (.l 0), .push, (some ((.l 3), true)), true, 7, none⟩,
    ⟨.mv (.v 4), .push, (some ((.l 4), true)), true, 8, none⟩,
    ⟨.mv (.v 3), .push, (some ((.l 5), true)), true, 9, none⟩,
    ⟨.bin .sub 3 false true (.l 0) (.k (.int .i64 1)), .push, (some ((.l 6), true)), false, 10, none⟩,
    ⟨.indexAddr 26 (.l 2) (.l 0), .push, (some ((.l 7), true)), true, 11, none⟩,
    ⟨.load 9 (.l 0), .push, (some ((.l 8), true)), true, 12, none⟩,
    ⟨.call 103 [(.l 5), (.l 0)], .push, (some ((.l 9), true)), false, 13, (some 0)⟩,
    ⟨.pick (.l 10) (.l 0) (.k (.bool false)), .push, none, true, 14, none⟩]) (.cond (.l 0) .skip (.exit 2))) (.seq (.block 3 (.dreg 0 [0, 0, 0, 0, 8, 0, 0, 64, 224, 480, 0, 0, 3072, 7168, 16355, 32739, 65535, 131071] [⟨.bin .sub 3 false true (.v 3) (.k (.int .i64 1)), .push, none, false, 4, none⟩,
    ⟨.bin .sub 3 false true (.v 3) (.k (.int .i64 1)), .push, none, false, 7, none⟩,
    ⟨.indexAddr 26 (.v 4) (.l 0), .push, none, true, 8, none⟩,
    ⟨.load 9 (.l 0), .push, none, true, 9, none⟩,
    ⟨.indexAddr 26 (.v 4) (.v 3), .push, none, true, 12, none⟩,
    ⟨.load 9 (.l 0), .push, none, true, 13, none⟩,
    ⟨.indexAddr 26 (.v 4) (.v 3), .push, none, true, 14, none⟩,
    ⟨.store 9 (.l 0) (.l 3), .none, none, false, 15, none⟩,
    ⟨.indexAddr 26 (.v 4) (.l 6), .push, none, true, 16, none⟩,
    ⟨.store 9 (.l 0) (.l 2), .none, none, false, 17, none⟩])) (.reg [⟨.mv (.v 3), .push, none, true, 0, none⟩,
    ⟨.bin .sub 3 false true (.l 0) (.k (.int .i64 1)), .push, none, false, 1, none⟩,
    ⟨.mv (.l 0), (.var 3), none, true, 2, none⟩]))))))) (.reg [⟨.mv (.v 1), .push, none, true, 0, none⟩,
    ⟨.bin .add 3 false true (.l 0) (.k (.int .i64 1)), .push, none, false, 1, none⟩,
    ⟨.mv (.l 0), (.var 1), none, true, 2, none⟩])))))), []⟩
noncomputable def G97 (E : Env) : ZFn := ⟨49, [1, 6, 2, 7, 0], fun cy Y fuel =>
  (zSeq (zReg fun k => (zDst .push (vInt E fAdd .add 3 false true (.v 0) (.k (.int .i64 1)))) ((zDst (.var 1) (vMv (.l 0))) k))
  (zBlock 0 (zLoop fuel (zSeq (zSeq (zReg fun k => (zDst .push (vInt E fLss .lss 3 false false (.v 1) (.v 2))) k)
  (zCond (.l 0) zSkip (zExit 0)))
  (zSeq (zBlock 1 (zSeq (zReg fun k => (zDst (.var 3) (vMv (.v 1))) k)
  (zBlock 2 (zLoop fuel (zSeq (zSeq (zDreg 1 fun n0 k => (fun k sp => zDst .push (vInt E fGtr .gtr 3 false false (.v 3) (.v 0)) (k sp)) ((zGD (.l 0) true .push (fun k sp => zDst .push (vMv (.v 4)) (k sp))) ((zGD (.l 1) true .push (fun k sp => zDst .push (vMv (.v 3)) (k sp))) ((zGD (.l 2) true .push (fun k sp => zDst .push (vIndexAddr 1 (.l 1) (.l 0)) (k sp))) ((zGD (.l 3) true .push (zDstWD [0, 0, 3, 7, 15, 15, 63, 127, 15, 15, 527, 1807, 3855, 8191, 16383] 7 .push (wLoad 1 false (.l 0)))) ((zGD (.l 4) true .push (fun k sp => zDst .push (vMv (.v 4)) (k sp))) ((zGD (.l 5) true .push (fun k sp => zDst .push (vMv (.v 3)) (k sp))) ((zGD (.l 6) true .push (fun k sp => zDst .push (vInt E fSub .sub 3 false true (.l 0) (.k (.int .i64 1))) (k sp))) ((zGD (.l 7) true .push (fun k sp => zDst .push (vIndexAddr 1 (.l 2) (.l 0)) (k sp))) ((zGD (.l 8) true .push (zDstWD [0, 0, 3, 7, 15, 15, 63, 127, 15, 15, 527, 1807, 3855, 8191, 16383] 12 .push (wLoad 1 false (.l 0)))) ((zGD (.l 9) true .push (zCallD (cy Y) [0, 0, 3, 7, 15, 15, 63, 127, 15, 15, 527, 1807, 3855, 8191, 16383] 13 103 [(.l 5), (.l 0)] .push)) ((fun k sp => zDst .push (vPick (.l 10) (.l 0) (.k (.bool false))) (k sp)) k))))))))))))
  (zCond (.l 0) zSkip (zExit 2)))
  (zSeq (zBlock 3 (zDreg 0 fun n0 k => (fun k sp => zDst .push (vInt E fSub .sub 3 false true (.v 3) (.k (.int .i64 1))) (k sp)) ((fun k sp => zDst .push (vInt E fSub .sub 3 false true (.v 3) (.k (.int .i64 1))) (k sp)) ((fun k sp => zDst .push (vIndexAddr 1 (.v 4) (.l 0)) (k sp)) ((zDstWD [0, 0, 0, 0, 8, 0, 0, 64, 224, 480, 0, 0, 3072, 7168, 16355, 32739, 65535, 131071] 9 .push (wLoad 1 false (.l 0))) ((fun k sp => zDst .push (vIndexAddr 1 (.v 4) (.v 3)) (k sp)) ((zDstWD [0, 0, 0, 0, 8, 0, 0, 64, 224, 480, 0, 0, 3072, 7168, 16355, 32739, 65535, 131071] 13 .push (wLoad 1 false (.l 0))) ((fun k sp => zDst .push (vIndexAddr 1 (.v 4) (.v 3)) (k sp)) ((zStepD E (cy Y) [0, 0, 0, 0, 8, 0, 0, 64, 224, 480, 0, 0, 3072, 7168, 16355, 32739, 65535, 131071] n0 ⟨.store 9 (.l 0) (.l 3), .none, none, false, 15, none⟩) ((fun k sp => zDst .push (vIndexAddr 1 (.v 4) (.l 6)) (k sp)) ((zStepD E (cy Y) [0, 0, 0, 0, 8, 0, 0, 64, 224, 480, 0, 0, 3072, 7168, 16355, 32739, 65535, 131071] n0 ⟨.store 9 (.l 0) (.l 2), .none, none, false, 17, none⟩) k)))))))))))
  (zReg fun k => (zDst .push (vMv (.v 3))) ((zDst .push (vInt E fSub .sub 3 false true (.l 0) (.k (.int .i64 1)))) ((zDst (.var 3) (vMv (.l 0))) k)))))))))
  (zReg fun k => (zDst .push (vMv (.v 1))) ((zDst .push (vInt E fAdd .add 3 false true (.l 0) (.k (.int .i64 1)))) ((zDst (.var 1) (vMv (.l 0))) k)))))))), []⟩
theorem G97_ok (fn : Nat → Option Func) (pu : Nat → Bool) (pr : Nat → List AV → Option (Heap → Option (Eff × Acc))) : ZOk ⟨Tryz.tyT, fn, pu, pr⟩ npT F97 (G97 ⟨Tryz.tyT, fn, pu, pr⟩) := ⟨rfl, rfl, rfl, fun cy Y k => by kernel_rfl⟩
noncomputable def F107 : FFn := ⟨25, [0, 2], (.seq (.reg [⟨.mv (.k (.int .i64 0)), (.var 1), none, true, 0, none⟩]) (.seq (.seq (.reg [⟨.bin .geq 25 false true (.v 0) (.k (.int .u64 4294967296)), .push, none, false, 1, none⟩]) (.cond (.l 0) (.seq (.reg [⟨.mv (.v 0), .push, none, true, 0, none⟩,
    ⟨.bin .shr 25 false true (.l 0) (.k (.int .u64 32)), .push, none, false, 1, none⟩,
    ⟨.mv (.l 0), (.var 0), none, true, 2, none⟩]) (.reg [⟨.mv (.k (.int .i64 32)), (.var 1), none, true, 0, none⟩])) .skip)) (.seq (.seq (.reg [⟨.bin .geq 25 false true (.v 0) (.k (.int .u64 65536)), .push, none, false, 1, none⟩]) (.cond (.l 0) (.seq (.reg [⟨.mv (.v 0), .push, none, true, 0, none⟩,
    ⟨.bin .shr 25 false true (.l 0) (.k (.int .u64 16)), .push, none, false, 1, none⟩,
    ⟨.mv (.l 0), (.var 0), none, true, 2, none⟩]) (.reg [⟨.mv (.v 1), .push, none, true, 0, none⟩,
    ⟨.bin .add 3 false true (.l 0) (.k (.int .i64 16)), .push, none, false, 1, none⟩,
    ⟨.mv (.l 0), (.var 1), none, true, 2, none⟩])) .skip)) (.seq (.seq (.reg [⟨.bin .geq 25 false true (.v 0) (.k (.int .u64 256)), .push, none, false, 1, none⟩]) (.cond (.l 0) (.seq (.reg [⟨.mv (.v 0), .push, none, true, 0, none⟩,
    ⟨.bin .shr 25 false true (.l 0) (.k (.int .u64 8)), .push, none, false, 1, none⟩,
    ⟨.mv (.l 0), (.var 0), none, true, 2, none⟩]) (.reg [⟨.mv (.v 1), .push, none, true, 0, none⟩,
    ⟨.bin .add 3 false true (.l 0) (.k (.int .i64 8)), .push, none, false, 1, none⟩,
    ⟨.mv (.l 0), (.var 1), none, true, 2, none⟩])) .skip)) (.seq (.reg [⟨.mv (.v 1), .push, none, true, 0, none⟩,
    ⟨.conv 25 5 (.v 0), .push, none, false, 2, none⟩,
    ⟨.index 9 (.k (.str [0, 1, 2, 2, 3, 3, 3, 3, 4, 4, 4, 4, 4, 4, 4, 4, 5, 5, 5, 5, 5, 5, 5, 5, 5, 5, 5, 5, 5, 5, 5, 5, 6, 6, 6, 6, 6, 6, 6, 6, 6, 6, 6, 6, 6, 6, 6, 6, 6, 6, 6, 6, 6, 6, 6, 6, 6, 6, 6, 6, 6, 6, 6, 6, 7, 7, 7, 7, 7, 7, 7, 7, 7, 7, 7, 7, 7, 7, 7, 7, 7, 7, 7, 7, 7, 7, 7, 7, 7, 7, 7, 7, 7, 7, 7, 7, 7, 7, 7, 7, 7, 7, 7, 7, 7, 7, 7, 7, 7, 7, 7, 7, 7, 7, 7, 7, 7, 7, 7, 7, 7, 7, 7, 7, 7, 7, 7, 7, 8, 8, 8, 8, 8, 8, 8, 8, 8, 8, 8, 8, 8, 8, 8, 8, 8, 8, 8, 8, 8, 8, 8, 8, 8, 8, 8, 8, 8, 8, 8, 8, 8, 8, 8, 8, 8, 8, 8, 8, 8, 8, 8, 8, 8, 8, 8, 8, 8, 8, 8, 8, 8, 8, 8, 8, 8, 8, 8, 8, 8, 8, 8, 8, 8, 8, 8, 8, 8, 8, 8, 8, 8, 8, 8, 8, 8, 8, 8, 8, 8, 8, 8, 8, 8, 8, 8, 8, 8, 8, 8, 8, 8, 8, 8, 8, 8, 8, 8, 8, 8, 8, 8, 8, 8, 8, 8, 8, 8, 8, 8, 8, 8, 8, 8, 8, 8, 8, 8, 8, 8, 8, 8, 8, 8, 8, 8, 8])) (.l 0), .push, none, false, 3, none⟩,
    ⟨.conv 5 3 (.l 0), .push, none, false, 4, none⟩,
    ⟨.bin .add 3 false false (.l 3) (.l 0), .push, none, false, 5, none⟩,
    ⟨.mv (.l 0), (.var 1), none, true, 6, none⟩]) .ret))))), [.tmp (.v 1)]⟩
noncomputable def G107 (E : Env) : ZFn := ⟨25, [0, 2], fun cy Y fuel =>
  (zSeq (zReg fun k => (zDst (.var 1) (vMv (.k (.int .i64 0)))) k)
  (zSeq (zSeq (zReg fun k => (zDst .push (vInt E (fGen .geq) .geq 25 false true (.v 0) (.k (.int .u64 4294967296)))) k)
  (zCond (.l 0) (zSeq (zReg fun k => (zDst .push (vMv (.v 0))) ((zDst .push (vBin E .shr 25 false true (.l 0) (.k (.int .u64 32)))) ((zDst (.var 0) (vMv (.l 0))) k)))
  (zReg fun k => (zDst (.var 1) (vMv (.k (.int .i64 32)))) k)) zSkip))
  (zSeq (zSeq (zReg fun k => (zDst .push (vInt E (fGen .geq) .geq 25 false true (.v 0) (.k (.int .u64 65536)))) k)
  (zCond (.l 0) (zSeq (zReg fun k => (zDst .push (vMv (.v 0))) ((zDst .push (vBin E .shr 25 false true (.l 0) (.k (.int .u64 16)))) ((zDst (.var 0) (vMv (.l 0))) k)))
  (zReg fun k => (zDst .push (vMv (.v 1))) ((zDst .push (vInt E fAdd .add 3 false true (.l 0) (.k (.int .i64 16)))) ((zDst (.var 1) (vMv (.l 0))) k)))) zSkip))
  (zSeq (zSeq (zReg fun k => (zDst .push (vInt E (fGen .geq) .geq 25 false true (.v 0) (.k (.int .u64 256)))) k)
  (zCond (.l 0) (zSeq (zReg fun k => (zDst .push (vMv (.v 0))) ((zDst .push (vBin E .shr 25 false true (.l 0) (.k (.int .u64 8)))) ((zDst (.var 0) (vMv (.l 0))) k)))
  (zReg fun k => (zDst .push (vMv (.v 1))) ((zDst .push (vInt E fAdd .add 3 false true (.l 0) (.k (.int .i64 8)))) ((zDst (.var 1) (vMv (.l 0))) k)))) zSkip))
  (zSeq (zReg fun k => (zDst .push (vMv (.v 1))) ((zDst .push (vConv .u8 (.v 0))) ((zStep E (cy Y) ⟨.index 9 (.k (.str [0, 1, 2, 2, 3, 3, 3, 3, 4, 4, 4, 4, 4, 4, 4, 4, 5, 5, 5, 5, 5, 5, 5, 5, 5, 5, 5, 5, 5, 5, 5, 5, 6, 6, 6, 6, 6, 6, 6, 6, 6, 6, 6, 6, 6, 6, 6, 6, 6, 6, 6, 6, 6, 6, 6, 6, 6, 6, 6, 6, 6, 6, 6, 6, 7, 7, 7, 7, 7, 7, 7, 7, 7, 7, 7, 7, 7, 7, 7, 7, 7, 7, 7, 7, 7, 7, 7, 7, 7, 7, 7, 7, 7, 7, 7, 7, 7, 7, 7, 7, 7, 7, 7, 7, 7, 7, 7, 7, 7, 7, 7, 7, 7, 7, 7, 7, 7, 7, 7, 7, 7, 7, 7, 7, 7, 7, 7, 7, 8, 8, 8, 8, 8, 8, 8, 8, 8, 8, 8, 8, 8, 8, 8, 8, 8, 8, 8, 8, 8, 8, 8, 8, 8, 8, 8, 8, 8, 8, 8, 8, 8, 8, 8, 8, 8, 8, 8, 8, 8, 8, 8, 8, 8, 8, 8, 8, 8, 8, 8, 8, 8, 8, 8, 8, 8, 8, 8, 8, 8, 8, 8, 8, 8, 8, 8, 8, 8, 8, 8, 8, 8, 8, 8, 8, 8, 8, 8, 8, 8, 8, 8, 8, 8, 8, 8, 8, 8, 8, 8, 8, 8, 8, 8, 8, 8, 8, 8, 8, 8, 8, 8, 8, 8, 8, 8, 8, 8, 8, 8, 8, 8, 8, 8, 8, 8, 8, 8, 8, 8, 8, 8, 8, 8, 8, 8, 8])) (.l 0), .push, none, false, 3, none⟩) ((zDst .push (vConv .i64 (.l 0))) ((zDst .push (vInt E fAdd .add 3 false false (.l 3) (.l 0))) ((zDst (.var 1) (vMv (.l 0))) k))))))
  zRet))))), [.tmp (.v 1)]⟩
theorem G107_ok (fn : Nat → Option Func) (pu : Nat → Bool) (pr : Nat → List AV → Option (Heap → Option (Eff × Acc))) : ZOk ⟨Tryz.tyT, fn, pu, pr⟩ npT F107 (G107 ⟨Tryz.tyT, fn, pu, pr⟩) := ⟨rfl, rfl, rfl, fun cy Y k => by kernel_rfl⟩
noncomputable def F108 : FFn := ⟨15, [0, 3, 4, 10, 2], (.seq (.reg [⟨.mv (.k (.int .i64 0)), (.var 4), none, true, 0, none⟩]) (.seq (.seq (.reg [⟨.mv (.v 0), (.var 1), none, true, 0, none⟩]) (.block 0 (.seq (.seq (.reg [⟨.bin .eql 3 false true (.v 1) (.k (.int .i64 1)), .push, none, false, 0, none⟩,
    ⟨.mv (.l 0), (.var 2), none, true, 1, none⟩]) (.cond (.v 2) .skip (.seq (.reg [⟨.bin .eql 3 false true (.v 1) (.k (.int .i64 2)), .push, none, false, 0, none⟩,
    ⟨.mv (.l 0), (.var 2), none, true, 1, none⟩]) (.cond (.v 2) .skip (.seq (.reg [⟨.bin .eql 3 false true (.v 1) (.k (.int .i64 3)), .push, none, false, 0, none⟩,
    ⟨.mv (.l 0), (.var 2), none, true, 1, none⟩]) (.cond (.v 2) .skip (.seq (.reg [⟨.bin .eql 3 false true (.v 1) (.k (.int .i64 6)), .push, none, false, 0, none⟩,
    ⟨.mv (.l 0), (.var 2), none, true, 1, none⟩]) (.cond (.v 2) .skip (.reg [⟨.bin .eql 3 false true (.v 1) (.k (.int .i64 7)), .push, none, false, 0, none⟩,
    ⟨.mv (.l 0), (.var 2), none, true, 1, none⟩]))))))))) (.cond (.v 2) (.seq (.reg [⟨.mv (.k (.int .i64 0)), (.var 4), none, true, 0, none⟩]) .ret) (.seq (.seq (.reg [⟨.bin .eql 3 false true (.v 1) (.k (.int .i64 4)), .push, none, false, 0, none⟩,
    ⟨.mv (.l 0), (.var 3), none, true, 1, none⟩]) (.cond (.v 3) .skip (.reg [⟨.bin .eql 3 false true (.v 1) (.k (.int .i64 8)), .push, none, false, 0, none⟩,
    ⟨.mv (.l 0), (.var 3), none, true, 1, none⟩]))) (.cond (.v 3) (.seq (.reg [⟨.mv (.k (.int .i64 1)), (.var 4), none, true, 0, none⟩]) .ret) (.seq (.reg [⟨.bin .eql 3 false true (.v 1) (.k (.int .i64 5)), .push, none, false, 0, none⟩,
    ⟨.mv (.l 0), .push, none, true, 1, none⟩]) (.cond (.l 0) (.seq (.reg [⟨.mv (.k (.int .i64 2)), (.var 4), none, true, 0, none⟩]) .ret) .skip)))))))) (.seq (.reg [⟨.mv (.k (.int .i64 (-1))), (.var 4), none, true, 0, none⟩]) .ret))), [.tmp (.v 4)]⟩
noncomputable def G108 (E : Env) : ZFn := ⟨15, [0, 3, 4, 10, 2], fun cy Y fuel =>
  (zSeq (zReg fun k => (zDst (.var 4) (vMv (.k (.int .i64 0)))) k)
  (zSeq (zSeq (zReg fun k => (zDst (.var 1) (vMv (.v 0))) k)
  (zBlock 0 (zSeq (zSeq (zReg fun k => (zDst .push (vInt E fEql .eql 3 false true (.v 1) (.k (.int .i64 1)))) ((zDst (.var 2) (vMv (.l 0))) k))
  (zCond (.v 2) zSkip (zSeq (zReg fun k => (zDst .push (vInt E fEql .eql 3 false true (.v 1) (.k (.int .i64 2)))) ((zDst (.var 2) (vMv (.l 0))) k))
  (zCond (.v 2) zSkip (zSeq (zReg fun k => (zDst .push (vInt E fEql .eql 3 false true (.v 1) (.k (.int .i64 3)))) ((zDst (.var 2) (vMv (.l 0))) k))
  (zCond (.v 2) zSkip (zSeq (zReg fun k => (zDst .push (vInt E fEql .eql 3 false true (.v 1) (.k (.int .i64 6)))) ((zDst (.var 2) (vMv (.l 0))) k))
  (zCond (.v 2) zSkip (zReg fun k => (zDst .push (vInt E fEql .eql 3 false true (.v 1) (.k (.int .i64 7)))) ((zDst (.var 2) (vMv (.l 0))) k))))))))))
  (zCond (.v 2) (zSeq (zReg fun k => (zDst (.var 4) (vMv (.k (.int .i64 0)))) k)
  zRet) (zSeq (zSeq (zReg fun k => (zDst .push (vInt E fEql .eql 3 false true (.v 1) (.k (.int .i64 4)))) ((zDst (.var 3) (vMv (.l 0))) k))
  (zCond (.v 3) zSkip (zReg fun k => (zDst .push (vInt E fEql .eql 3 false true (.v 1) (.k (.int .i64 8)))) ((zDst (.var 3) (vMv (.l 0))) k))))
  (zCond (.v 3) (zSeq (zReg fun k => (zDst (.var 4) (vMv (.k (.int .i64 1)))) k)
  zRet) (zSeq (zReg fun k => (zDst .push (vInt E fEql .eql 3 false true (.v 1) (.k (.int .i64 5)))) ((zDst .push (vMv (.l 0))) k))
  (zCond (.l 0) (zSeq (zReg fun k => (zDst (.var 4) (vMv (.k (.int .i64 2)))) k)
  zRet) zSkip))))))))
  (zSeq (zReg fun k => (zDst (.var 4) (vMv (.k (.int .i64 (-1))))) k)
  zRet))), [.tmp (.v 4)]⟩
theorem G108_ok (fn : Nat → Option Func) (pu : Nat → Bool) (pr : Nat → List AV → Option (Heap → Option (Eff × Acc))) : ZOk ⟨Tryz.tyT, fn, pu, pr⟩ npT F108 (G108 ⟨Tryz.tyT, fn, pu, pr⟩) := ⟨rfl, rfl, rfl, fun cy Y k => by kernel_rfl⟩
end Go.Proofs.PxG1
