/- The functions of the seat, in one breath: part 2. -/
import Derived.Test.YtnpphcbfainkbaaPzTryF0
import Derived.KernelRfl
set_option maxRecDepth 100000
set_option linter.unusedVariables false
set_option linter.unusedSimpArgs false
namespace Go.Proofs.PxTry
open Go Go.Px Go.Proofs
noncomputable def F97 : FFn := ⟨8, [0, 2], (.seq (.reg [⟨.mv (.k (.int .i64 0)), (.var 1), none, true, 0, none⟩]) (.seq (.cond (.k (.bool false)) (.seq (.reg [⟨.conv 48 121 (.v 0), .push, none, false, 1, none⟩,
    ⟨.call 109 [(.l 0)], .push, none, false, 2, (some 0)⟩,
    ⟨.mv (.l 0), (.var 1), none, true, 3, none⟩]) .ret) .skip) (.seq (.reg [⟨.call 110 [(.v 0)], .push, none, false, 1, (some 0)⟩,
    ⟨.mv (.l 0), (.var 1), none, true, 2, none⟩]) .ret))), [.tmp (.v 1)]⟩
noncomputable def G97 (E : Env) : ZFn := ⟨8, [0, 2], fun cy Y fuel =>
  (zSeq (zReg fun k => (zDst (.var 1) (vMv (.k (.int .i64 0)))) k)
  (zSeq (zCond (.k (.bool false)) (zSeq (zReg fun k => (zDst .push (vConv .u32 (.v 0))) ((zCall (cy Y) 109 [(.l 0)] .push) ((zDst (.var 1) (vMv (.l 0))) k)))
  zRet) zSkip)
  (zSeq (zReg fun k => (zCall (cy Y) 110 [(.v 0)] .push) ((zDst (.var 1) (vMv (.l 0))) k))
  zRet))), [.tmp (.v 1)]⟩
theorem G97_ok (fn : Nat → Option Func) (pu : Nat → Bool) (pr : Nat → List AV → Option (Heap → Option (Eff × Acc))) : ZOk ⟨Try.tyT, fn, pu, pr⟩ npT F97 (G97 ⟨Try.tyT, fn, pu, pr⟩) := ⟨rfl, rfl, rfl, fun cy Y k => by kernel_rfl⟩
noncomputable def F98 : FFn := ⟨14, [0, 1], (.seq (.reg [⟨.slice 23 (.v 0) none (some (.v 1)) none, .push, none, false, 2, none⟩,
    ⟨.call 111 [(.l 0)], .push, none, false, 3, (some 0)⟩]) (.seq (.reg [⟨.slice 23 (.v 0) (some (.v 1)) none none, .push, none, false, 2, none⟩,
    ⟨.call 111 [(.l 0)], .push, none, false, 3, (some 0)⟩]) (.reg [⟨.call 111 [(.v 0)], .push, none, false, 1, (some 0)⟩]))), []⟩
noncomputable def G98 (E : Env) : ZFn := ⟨14, [0, 1], fun cy Y fuel =>
  (zSeq (zReg fun k => (zStep E (cy Y) ⟨.slice 23 (.v 0) none (some (.v 1)) none, .push, none, false, 2, none⟩) ((zCall (cy Y) 111 [(.l 0)] .push) k))
  (zSeq (zReg fun k => (zStep E (cy Y) ⟨.slice 23 (.v 0) (some (.v 1)) none none, .push, none, false, 2, none⟩) ((zCall (cy Y) 111 [(.l 0)] .push) k))
  (zReg fun k => (zCall (cy Y) 111 [(.v 0)] .push) k))), []⟩
theorem G98_ok (fn : Nat → Option Func) (pu : Nat → Bool) (pr : Nat → List AV → Option (Heap → Option (Eff × Acc))) : ZOk ⟨Try.tyT, fn, pu, pr⟩ npT F98 (G98 ⟨Try.tyT, fn, pu, pr⟩) := ⟨rfl, rfl, rfl, fun cy Y k => by kernel_rfl⟩
noncomputable def F100 : FFn := ⟨14, [0, 1], (.seq (.reg [⟨.slice 22 (.v 0) none (some (.v 1)) none, .push, none, false, 2, none⟩,
    ⟨.call 112 [(.l 0)], .push, none, false, 3, (some 0)⟩]) (.seq (.reg [⟨.slice 22 (.v 0) (some (.v 1)) none none, .push, none, false, 2, none⟩,
    ⟨.call 112 [(.l 0)], .push, none, false, 3, (some 0)⟩]) (.reg [⟨.call 112 [(.v 0)], .push, none, false, 1, (some 0)⟩]))), []⟩
noncomputable def G100 (E : Env) : ZFn := ⟨14, [0, 1], fun cy Y fuel =>
  (zSeq (zReg fun k => (zStep E (cy Y) ⟨.slice 22 (.v 0) none (some (.v 1)) none, .push, none, false, 2, none⟩) ((zCall (cy Y) 112 [(.l 0)] .push) k))
  (zSeq (zReg fun k => (zStep E (cy Y) ⟨.slice 22 (.v 0) (some (.v 1)) none none, .push, none, false, 2, none⟩) ((zCall (cy Y) 112 [(.l 0)] .push) k))
  (zReg fun k => (zCall (cy Y) 112 [(.v 0)] .push) k))), []⟩
theorem G100_ok (fn : Nat → Option Func) (pu : Nat → Bool) (pr : Nat → List AV → Option (Heap → Option (Eff × Acc))) : ZOk ⟨Try.tyT, fn, pu, pr⟩ npT F100 (G100 ⟨Try.tyT, fn, pu, pr⟩) := ⟨rfl, rfl, rfl, fun cy Y k => by kernel_rfl⟩
noncomputable def F101 : FFn := ⟨53, [1, 8, 2, 9, 3, 0], (.seq (.reg [⟨.bin .add 3 false true (.v 0) (.k (.int .i64 1)), .push, none, false, 1, none⟩,
    ⟨.mv (.l 0), (.var 1), none, true, 2, none⟩]) (.block 0 (.loop (.seq (.seq (.reg [⟨.bin .lss 3 false false (.v 1) (.v 2), .push, none, false, 2, none⟩]) (.cond (.l 0) .skip (.exit 0))) (.seq (.block 1 (.seq (.reg [⟨.mv (.v 1), (.var 3), none, true, 1, none⟩]) (.block 2 (.loop (.seq (.seq (.dreg 1 [0, 0, 3, 7, 15, 15, 15, 111, 239, 15, 15, 1039, 3599, 7695, 16383, 32767, 65535] [⟨.bin .gtr 3 false false (.v 3) (.v 0), .push, none, false, 2, none⟩,
    ⟨.mv (.v 4), .push, (some ((.l 0), true)), true, 4, none⟩,
    ⟨.mv (.v 5), .push, (some ((.l 1), true)), true, 5, none⟩,
    ⟨.mv (.v 3), .push, (some ((.l 2), true)), true, 6, none⟩,
    ⟨.indexAddr 102 (.l 1) (.l 0), .push, (some ((.l 3), true)), true, 7, none⟩,
    ⟨.load 104 (.l 0), .push, (some ((.l 4), true)), true, 8, none⟩,
    ⟨.mv (.v 5), .push, (some ((.l 5), true)), true, 9, none⟩,
    ⟨.mv (.v 3), .push, (some ((.l 6), true)), true, 10, none⟩,
    ⟨.bin .sub 3 false true (.l 0) (.k (.int .i64 1)), .push, (some ((.l 7), true)), false, 11, none⟩,
    ⟨.indexAddr 102 (.l 2) (.l 0), .push, (some ((.l 8), true)), true, 12, none⟩,
    ⟨.load 104 (.l 0), .push, (some ((.l 9), true)), true, 13, none⟩,
    ⟨.callv (.l 9) [(.l 5), (.l 0)], .push, (some ((.l 10), true)), false, 14, (some 0)⟩,
    ⟨.bin .lss 3 false true (.l 0) (.k (.int .i64 0)), .push, (some ((.l 11), true)), false, 15, none⟩,
    ⟨.pick (.l 12) (.l 0) (.k (.bool false)), .push, none, true, 16, none⟩]) (.cond (.l 0) .skip (.exit 2))) (.seq (.block 3 (.dreg 0 [0, 0, 0, 0, 8, 0, 0, 64, 224, 480, 0, 0, 3072, 7168, 16355, 32739, 65535, 131071] [⟨.bin .sub 3 false true (.v 3) (.k (.int .i64 1)), .push, none, false, 4, none⟩,
    ⟨.bin .sub 3 false true (.v 3) (.k (.int .i64 1)), .push, none, false, 7, none⟩,
    ⟨.indexAddr 102 (.v 5) (.l 0), .push, none, true, 8, none⟩,
    ⟨.load 104 (.l 0), .push, none, true, 9, none⟩,
    ⟨.indexAddr 102 (.v 5) (.v 3), .push, none, true, 12, none⟩,
    ⟨.load 104 (.l 0), .push, none, true, 13, none⟩,
    ⟨.indexAddr 102 (.v 5) (.v 3), .push, none, true, 14, none⟩,
    ⟨.store 104 (.l 0) (.l 3), .none, none, false, 15, none⟩,
    ⟨.indexAddr 102 (.v 5) (.l 6), .push, none, true, 16, none⟩,
    ⟨.store 104 (.l 0) (.l 2), .none, none, false, 17, none⟩])) (.reg [⟨.mv (.v 3), .push, none, true, 0, none⟩,
    ⟨.bin .sub 3 false true (.l 0) (.k (.int .i64 1)), .push, none, false, 1, none⟩,
    ⟨.mv (.l 0), (.var 3), none, true, 2, none⟩]))))))) (.reg [⟨.mv (.v 1), .push, none, true, 0, none⟩,
    ⟨.bin .add 3 false true (.l 0) (.k (.int .i64 1)), .push, none, false, 1, none⟩,
    ⟨.mv (.l 0), (.var 1), none, true, 2, none⟩])))))), []⟩
noncomputable def G101 (E : Env) : ZFn := ⟨53, [1, 8, 2, 9, 3, 0], fun cy Y fuel =>
  (zSeq (zReg fun k => (zDst .push (vInt E fAdd .add 3 false true (.v 0) (.k (.int .i64 1)))) ((zDst (.var 1) (vMv (.l 0))) k))
  (zBlock 0 (zLoop fuel (zSeq (zSeq (zReg fun k => (zDst .push (vInt E fLss .lss 3 false false (.v 1) (.v 2))) k)
  (zCond (.l 0) zSkip (zExit 0)))
  (zSeq (zBlock 1 (zSeq (zReg fun k => (zDst (.var 3) (vMv (.v 1))) k)
  (zBlock 2 (zLoop fuel (zSeq (zSeq (zDreg 1 fun n0 k => (fun k sp => zDst .push (vInt E fGtr .gtr 3 false false (.v 3) (.v 0)) (k sp)) ((zGD (.l 0) true .push (fun k sp => zDst .push (vMv (.v 4)) (k sp))) ((zGD (.l 1) true .push (fun k sp => zDst .push (vMv (.v 5)) (k sp))) ((zGD (.l 2) true .push (fun k sp => zDst .push (vMv (.v 3)) (k sp))) ((zGD (.l 3) true .push (fun k sp => zDst .push (vIndexAddr 2 (.l 1) (.l 0)) (k sp))) ((zGD (.l 4) true .push (zDstWD [0, 0, 3, 7, 15, 15, 15, 111, 239, 15, 15, 1039, 3599, 7695, 16383, 32767, 65535] 8 .push (wLoad 2 true (.l 0)))) ((zGD (.l 5) true .push (fun k sp => zDst .push (vMv (.v 5)) (k sp))) ((zGD (.l 6) true .push (fun k sp => zDst .push (vMv (.v 3)) (k sp))) ((zGD (.l 7) true .push (fun k sp => zDst .push (vInt E fSub .sub 3 false true (.l 0) (.k (.int .i64 1))) (k sp))) ((zGD (.l 8) true .push (fun k sp => zDst .push (vIndexAddr 2 (.l 2) (.l 0)) (k sp))) ((zGD (.l 9) true .push (zDstWD [0, 0, 3, 7, 15, 15, 15, 111, 239, 15, 15, 1039, 3599, 7695, 16383, 32767, 65535] 13 .push (wLoad 2 true (.l 0)))) ((zGD (.l 10) true .push (zStepD E (cy Y) [0, 0, 3, 7, 15, 15, 15, 111, 239, 15, 15, 1039, 3599, 7695, 16383, 32767, 65535] n0 ⟨.callv (.l 9) [(.l 5), (.l 0)], .push, none, false, 14, (some 0)⟩)) ((zGD (.l 11) true .push (fun k sp => zDst .push (vInt E fLss .lss 3 false true (.l 0) (.k (.int .i64 0))) (k sp))) ((fun k sp => zDst .push (vPick (.l 12) (.l 0) (.k (.bool false))) (k sp)) k))))))))))))))
  (zCond (.l 0) zSkip (zExit 2)))
  (zSeq (zBlock 3 (zDreg 0 fun n0 k => (fun k sp => zDst .push (vInt E fSub .sub 3 false true (.v 3) (.k (.int .i64 1))) (k sp)) ((fun k sp => zDst .push (vInt E fSub .sub 3 false true (.v 3) (.k (.int .i64 1))) (k sp)) ((fun k sp => zDst .push (vIndexAddr 2 (.v 5) (.l 0)) (k sp)) ((zDstWD [0, 0, 0, 0, 8, 0, 0, 64, 224, 480, 0, 0, 3072, 7168, 16355, 32739, 65535, 131071] 9 .push (wLoad 2 true (.l 0))) ((fun k sp => zDst .push (vIndexAddr 2 (.v 5) (.v 3)) (k sp)) ((zDstWD [0, 0, 0, 0, 8, 0, 0, 64, 224, 480, 0, 0, 3072, 7168, 16355, 32739, 65535, 131071] 13 .push (wLoad 2 true (.l 0))) ((fun k sp => zDst .push (vIndexAddr 2 (.v 5) (.v 3)) (k sp)) ((zStepD E (cy Y) [0, 0, 0, 0, 8, 0, 0, 64, 224, 480, 0, 0, 3072, 7168, 16355, 32739, 65535, 131071] n0 ⟨.store 104 (.l 0) (.l 3), .none, none, false, 15, none⟩) ((fun k sp => zDst .push (vIndexAddr 2 (.v 5) (.l 6)) (k sp)) ((zStepD E (cy Y) [0, 0, 0, 0, 8, 0, 0, 64, 224, 480, 0, 0, 3072, 7168, 16355, 32739, 65535, 131071] n0 ⟨.store 104 (.l 0) (.l 2), .none, none, false, 17, none⟩) k)))))))))))
  (zReg fun k => (zDst .push (vMv (.v 3))) ((zDst .push (vInt E fSub .sub 3 false true (.l 0) (.k (.int .i64 1)))) ((zDst (.var 3) (vMv (.l 0))) k)))))))))
  (zReg fun k => (zDst .push (vMv (.v 1))) ((zDst .push (vInt E fAdd .add 3 false true (.l 0) (.k (.int .i64 1)))) ((zDst (.var 1) (vMv (.l 0))) k)))))))), []⟩
theorem G101_ok (fn : Nat → Option Func) (pu : Nat → Bool) (pr : Nat → List AV → Option (Heap → Option (Eff × Acc))) : ZOk ⟨Try.tyT, fn, pu, pr⟩ npT F101 (G101 ⟨Try.tyT, fn, pu, pr⟩) := ⟨rfl, rfl, rfl, fun cy Y k => by kernel_rfl⟩
noncomputable def F102 : FFn := ⟨60, [1, 2, 10, 11, 0, 8, 3, 12, 9], (.seq (.reg [⟨.mv (.v 0), (.var 5), none, true, 1, none⟩]) (.seq (.reg [⟨.mv (.k (.int .i64 0)), (.var 8), none, true, 0, none⟩]) (.seq (.reg [⟨.bin .sub 3 false false (.v 1) (.v 0), .push, none, false, 2, none⟩,
    ⟨.mv (.l 0), (.var 2), none, true, 3, none⟩]) (.seq (.seq (.reg [⟨.bin .sub 3 false true (.v 2) (.k (.int .i64 1)), .push, none, false, 1, none⟩,
    ⟨.bin .quo 3 false true (.l 0) (.k (.int .i64 2)), .push, none, false, 2, none⟩,
    ⟨.mv (.l 0), (.var 3), none, true, 3, none⟩]) (.block 0 (.loop (.seq (.seq (.reg [⟨.bin .geq 3 false true (.v 3) (.k (.int .i64 0)), .push, none, false, 1, none⟩]) (.cond (.l 0) .skip (.exit 0))) (.seq (.block 1 (.reg [⟨.call 113 [(.v 4), (.v 3), (.v 2), (.v 5), (.v 6)], .push, none, false, 5, (some 0)⟩])) (.reg [⟨.mv (.v 3), .push, none, true, 0, none⟩,
    ⟨.bin .sub 3 false true (.l 0) (.k (.int .i64 1)), .push, none, false, 1, none⟩,
    ⟨.mv (.l 0), (.var 3), none, true, 2, none⟩])))))) (.seq (.reg [⟨.bin .sub 3 false true (.v 2) (.k (.int .i64 1)), .push, none, false, 1, none⟩,
    ⟨.mv (.l 0), (.var 7), none, true, 2, none⟩]) (.block 2 (.loop (.seq (.seq (.reg [⟨.bin .geq 3 false true (.v 7) (.k (.int .i64 0)), .push, none, false, 1, none⟩]) (.cond (.l 0) .skip (.exit 2))) (.seq (.block 3 (.seq (.dreg 0 [0, 0, 0, 0, 0, 24, 0, 0, 0, 384, 960, 1984, 0, 0, 12288, 28672, 65475, 131011, 262143, 524287] [⟨.bin .add 3 false false (.v 5) (.v 7), .push, none, false, 5, none⟩,
    ⟨.bin .add 3 false false (.v 5) (.v 7), .push, none, false, 9, none⟩,
    ⟨.indexAddr 102 (.v 4) (.l 0), .push, none, true, 10, none⟩,
    ⟨.load 104 (.l 0), .push, none, true, 11, none⟩,
    ⟨.indexAddr 102 (.v 4) (.v 5), .push, none, true, 14, none⟩,
    ⟨.load 104 (.l 0), .push, none, true, 15, none⟩,
    ⟨.indexAddr 102 (.v 4) (.v 5), .push, none, true, 16, none⟩,
    ⟨.store 104 (.l 0) (.l 3), .none, none, false, 17, none⟩,
    ⟨.indexAddr 102 (.v 4) (.l 6), .push, none, true, 18, none⟩,
    ⟨.store 104 (.l 0) (.l 2), .none, none, false, 19, none⟩]) (.reg [⟨.call 113 [(.v 4), (.v 8), (.v 7), (.v 5), (.v 6)], .push, none, false, 5, (some 0)⟩]))) (.reg [⟨.mv (.v 7), .push, none, true, 0, none⟩,
    ⟨.bin .sub 3 false true (.l 0) (.k (.int .i64 1)), .push, none, false, 1, none⟩,
    ⟨.mv (.l 0), (.var 7), none, true, 2, none⟩])))))))))), []⟩
noncomputable def G102 (E : Env) : ZFn := ⟨60, [1, 2, 10, 11, 0, 8, 3, 12, 9], fun cy Y fuel =>
  (zSeq (zReg fun k => (zDst (.var 5) (vMv (.v 0))) k)
  (zSeq (zReg fun k => (zDst (.var 8) (vMv (.k (.int .i64 0)))) k)
  (zSeq (zReg fun k => (zDst .push (vInt E fSub .sub 3 false false (.v 1) (.v 0))) ((zDst (.var 2) (vMv (.l 0))) k))
  (zSeq (zSeq (zReg fun k => (zDst .push (vInt E fSub .sub 3 false true (.v 2) (.k (.int .i64 1)))) ((zDst .push (vInt E (fGen .quo) .quo 3 false true (.l 0) (.k (.int .i64 2)))) ((zDst (.var 3) (vMv (.l 0))) k)))
  (zBlock 0 (zLoop fuel (zSeq (zSeq (zReg fun k => (zDst .push (vInt E (fGen .geq) .geq 3 false true (.v 3) (.k (.int .i64 0)))) k)
  (zCond (.l 0) zSkip (zExit 0)))
  (zSeq (zBlock 1 (zReg fun k => (zCall (cy Y) 113 [(.v 4), (.v 3), (.v 2), (.v 5), (.v 6)] .push) k))
  (zReg fun k => (zDst .push (vMv (.v 3))) ((zDst .push (vInt E fSub .sub 3 false true (.l 0) (.k (.int .i64 1)))) ((zDst (.var 3) (vMv (.l 0))) k))))))))
  (zSeq (zReg fun k => (zDst .push (vInt E fSub .sub 3 false true (.v 2) (.k (.int .i64 1)))) ((zDst (.var 7) (vMv (.l 0))) k))
  (zBlock 2 (zLoop fuel (zSeq (zSeq (zReg fun k => (zDst .push (vInt E (fGen .geq) .geq 3 false true (.v 7) (.k (.int .i64 0)))) k)
  (zCond (.l 0) zSkip (zExit 2)))
  (zSeq (zBlock 3 (zSeq (zDreg 0 fun n0 k => (fun k sp => zDst .push (vInt E fAdd .add 3 false false (.v 5) (.v 7)) (k sp)) ((fun k sp => zDst .push (vInt E fAdd .add 3 false false (.v 5) (.v 7)) (k sp)) ((fun k sp => zDst .push (vIndexAddr 2 (.v 4) (.l 0)) (k sp)) ((zDstWD [0, 0, 0, 0, 0, 24, 0, 0, 0, 384, 960, 1984, 0, 0, 12288, 28672, 65475, 131011, 262143, 524287] 11 .push (wLoad 2 true (.l 0))) ((fun k sp => zDst .push (vIndexAddr 2 (.v 4) (.v 5)) (k sp)) ((zDstWD [0, 0, 0, 0, 0, 24, 0, 0, 0, 384, 960, 1984, 0, 0, 12288, 28672, 65475, 131011, 262143, 524287] 15 .push (wLoad 2 true (.l 0))) ((fun k sp => zDst .push (vIndexAddr 2 (.v 4) (.v 5)) (k sp)) ((zStepD E (cy Y) [0, 0, 0, 0, 0, 24, 0, 0, 0, 384, 960, 1984, 0, 0, 12288, 28672, 65475, 131011, 262143, 524287] n0 ⟨.store 104 (.l 0) (.l 3), .none, none, false, 17, none⟩) ((fun k sp => zDst .push (vIndexAddr 2 (.v 4) (.l 6)) (k sp)) ((zStepD E (cy Y) [0, 0, 0, 0, 0, 24, 0, 0, 0, 384, 960, 1984, 0, 0, 12288, 28672, 65475, 131011, 262143, 524287] n0 ⟨.store 104 (.l 0) (.l 2), .none, none, false, 19, none⟩) k))))))))))
  (zReg fun k => (zCall (cy Y) 113 [(.v 4), (.v 8), (.v 7), (.v 5), (.v 6)] .push) k)))
  (zReg fun k => (zDst .push (vMv (.v 7))) ((zDst .push (vInt E fSub .sub 3 false true (.l 0) (.k (.int .i64 1)))) ((zDst (.var 7) (vMv (.l 0))) k)))))))))))), []⟩
theorem G102_ok (fn : Nat → Option Func) (pu : Nat → Bool) (pr : Nat → List AV → Option (Heap → Option (Eff × Acc))) : ZOk ⟨Try.tyT, fn, pu, pr⟩ npT F102 (G102 ⟨Try.tyT, fn, pu, pr⟩) := ⟨rfl, rfl, rfl, fun cy Y k => by kernel_rfl⟩
noncomputable def F103 : FFn := ⟨67, [2, 1, 8, 11, 9, 10, 12, 0], (.seq (.reg [⟨.bin .sub 3 false false (.v 0) (.v 1), .push, none, false, 2, none⟩,
    ⟨.mv (.l 0), (.var 2), none, true, 3, none⟩]) (.seq (.reg [⟨.bin .geq 3 false true (.v 2) (.k (.int .i64 8)), .push, none, false, 1, none⟩]) (.cond (.l 0) (.seq (.reg [⟨.conv 3 125 (.v 2), .push, none, false, 1, none⟩,
    ⟨.alloc 125, (.var 4), none, false, 2, (some 0)⟩,
    ⟨.store 125 (.v 4) (.l 0), .none, none, false, 3, none⟩]) (.seq (.reg [⟨.call 114 [(.v 2)], .push, none, false, 1, (some 0)⟩,
    ⟨.mv (.l 0), (.var 5), none, true, 2, none⟩]) (.seq (.reg [⟨.bin .quo 3 false true (.v 2) (.k (.int .i64 4)), .push, none, false, 2, none⟩,
    ⟨.bin .mul 3 false true (.l 0) (.k (.int .i64 2)), .push, none, false, 3, none⟩,
    ⟨.bin .add 3 false false (.v 1) (.l 0), .push, none, false, 4, none⟩,
    ⟨.bin .sub 3 false true (.l 0) (.k (.int .i64 1)), .push, none, false, 5, none⟩,
    ⟨.mv (.l 0), (.var 3), none, true, 6, none⟩]) (.block 0 (.loop (.seq (.seq (.reg [⟨.bin .quo 3 false true (.v 2) (.k (.int .i64 4)), .push, none, false, 3, none⟩,
    ⟨.bin .mul 3 false true (.l 0) (.k (.int .i64 2)), .push, none, false, 4, none⟩,
    ⟨.bin .add 3 false false (.v 1) (.l 0), .push, none, false, 5, none⟩,
    ⟨.bin .add 3 false true (.l 0) (.k (.int .i64 1)), .push, none, false, 6, none⟩,
    ⟨.bin .leq 3 false false (.v 3) (.l 0), .push, none, false, 7, none⟩]) (.cond (.l 0) .skip (.exit 0))) (.seq (.block 1 (.seq (.reg [⟨.call 115 [(.v 4)], .push, none, false, 0, (some 0)⟩,
    ⟨.bin .sub 48 false true (.v 5) (.k (.int .u64 1)), .push, none, false, 2, none⟩,
    ⟨.bin .and 48 false false (.l 1) (.l 0), .push, none, false, 3, none⟩,
    ⟨.conv 48 3 (.l 0), .push, none, false, 4, none⟩,
    ⟨.mv (.l 0), (.var 6), none, true, 5, none⟩]) (.seq (.seq (.reg [⟨.bin .geq 3 false false (.v 6) (.v 2), .push, none, false, 2, none⟩]) (.cond (.l 0) (.reg [⟨.mv (.v 6), .push, none, true, 0, none⟩,
    ⟨.bin .sub 3 false false (.l 0) (.v 2), .push, none, false, 2, none⟩,
    ⟨.mv (.l 0), (.var 6), none, true, 3, none⟩]) .skip)) (.dreg 0 [0, 0, 0, 0, 0, 24, 0, 0, 0, 384, 960, 1984, 0, 0, 12288, 28672, 65475, 131011, 262143, 524287] [⟨.bin .add 3 false false (.v 1) (.v 6), .push, none, false, 5, none⟩,
    ⟨.bin .add 3 false false (.v 1) (.v 6), .push, none, false, 9, none⟩,
    ⟨.indexAddr 102 (.v 7) (.l 0), .push, none, true, 10, none⟩,
    ⟨.load 104 (.l 0), .push, none, true, 11, none⟩,
    ⟨.indexAddr 102 (.v 7) (.v 3), .push, none, true, 14, none⟩,
    ⟨.load 104 (.l 0), .push, none, true, 15, none⟩,
    ⟨.indexAddr 102 (.v 7) (.v 3), .push, none, true, 16, none⟩,
    ⟨.store 104 (.l 0) (.l 3), .none, none, false, 17, none⟩,
    ⟨.indexAddr 102 (.v 7) (.l 6), .push, none, true, 18, none⟩,
    ⟨.store 104 (.l 0) (.l 2), .none, none, false, 19, none⟩])))) (.reg [⟨.mv (.v 3), .push, none, true, 0, none⟩,
    ⟨.bin .add 3 false true (.l 0) (.k (.int .i64 1)), .push, none, false, 1, none⟩,
    ⟨.mv (.l 0), (.var 3), none, true, 2, none⟩])))))))) .skip))), []⟩
noncomputable def G103 (E : Env) : ZFn := ⟨67, [2, 1, 8, 11, 9, 10, 12, 0], fun cy Y fuel =>
  (zSeq (zReg fun k => (zDst .push (vInt E fSub .sub 3 false false (.v 0) (.v 1))) ((zDst (.var 2) (vMv (.l 0))) k))
  (zSeq (zReg fun k => (zDst .push (vInt E (fGen .geq) .geq 3 false true (.v 2) (.k (.int .i64 8)))) k)
  (zCond (.l 0) (zSeq (zReg fun k => (zDst .push (vConv .u64 (.v 2))) ((zStep E (cy Y) ⟨.alloc 125, (.var 4), none, false, 2, (some 0)⟩) ((zStep E (cy Y) ⟨.store 125 (.v 4) (.l 0), .none, none, false, 3, none⟩) k)))
  (zSeq (zReg fun k => (zCall (cy Y) 114 [(.v 2)] .push) ((zDst (.var 5) (vMv (.l 0))) k))
  (zSeq (zReg fun k => (zDst .push (vInt E (fGen .quo) .quo 3 false true (.v 2) (.k (.int .i64 4)))) ((zDst .push (vInt E (fGen .mul) .mul 3 false true (.l 0) (.k (.int .i64 2)))) ((zDst .push (vInt E fAdd .add 3 false false (.v 1) (.l 0))) ((zDst .push (vInt E fSub .sub 3 false true (.l 0) (.k (.int .i64 1)))) ((zDst (.var 3) (vMv (.l 0))) k)))))
  (zBlock 0 (zLoop fuel (zSeq (zSeq (zReg fun k => (zDst .push (vInt E (fGen .quo) .quo 3 false true (.v 2) (.k (.int .i64 4)))) ((zDst .push (vInt E (fGen .mul) .mul 3 false true (.l 0) (.k (.int .i64 2)))) ((zDst .push (vInt E fAdd .add 3 false false (.v 1) (.l 0))) ((zDst .push (vInt E fAdd .add 3 false true (.l 0) (.k (.int .i64 1)))) ((zDst .push (vInt E (fGen .leq) .leq 3 false false (.v 3) (.l 0))) k)))))
  (zCond (.l 0) zSkip (zExit 0)))
  (zSeq (zBlock 1 (zSeq (zReg fun k => (zCall (cy Y) 115 [(.v 4)] .push) ((zDst .push (vInt E fSub .sub 48 false true (.v 5) (.k (.int .u64 1)))) ((zDst .push (vInt E (fGen .and) .and 48 false false (.l 1) (.l 0))) ((zDst .push (vConv .i64 (.l 0))) ((zDst (.var 6) (vMv (.l 0))) k)))))
  (zSeq (zSeq (zReg fun k => (zDst .push (vInt E (fGen .geq) .geq 3 false false (.v 6) (.v 2))) k)
  (zCond (.l 0) (zReg fun k => (zDst .push (vMv (.v 6))) ((zDst .push (vInt E fSub .sub 3 false false (.l 0) (.v 2))) ((zDst (.var 6) (vMv (.l 0))) k))) zSkip))
  (zDreg 0 fun n0 k => (fun k sp => zDst .push (vInt E fAdd .add 3 false false (.v 1) (.v 6)) (k sp)) ((fun k sp => zDst .push (vInt E fAdd .add 3 false false (.v 1) (.v 6)) (k sp)) ((fun k sp => zDst .push (vIndexAddr 2 (.v 7) (.l 0)) (k sp)) ((zDstWD [0, 0, 0, 0, 0, 24, 0, 0, 0, 384, 960, 1984, 0, 0, 12288, 28672, 65475, 131011, 262143, 524287] 11 .push (wLoad 2 true (.l 0))) ((fun k sp => zDst .push (vIndexAddr 2 (.v 7) (.v 3)) (k sp)) ((zDstWD [0, 0, 0, 0, 0, 24, 0, 0, 0, 384, 960, 1984, 0, 0, 12288, 28672, 65475, 131011, 262143, 524287] 15 .push (wLoad 2 true (.l 0))) ((fun k sp => zDst .push (vIndexAddr 2 (.v 7) (.v 3)) (k sp)) ((zStepD E (cy Y) [0, 0, 0, 0, 0, 24, 0, 0, 0, 384, 960, 1984, 0, 0, 12288, 28672, 65475, 131011, 262143, 524287] n0 ⟨.store 104 (.l 0) (.l 3), .none, none, false, 17, none⟩) ((fun k sp => zDst .push (vIndexAddr 2 (.v 7) (.l 6)) (k sp)) ((zStepD E (cy Y) [0, 0, 0, 0, 0, 24, 0, 0, 0, 384, 960, 1984, 0, 0, 12288, 28672, 65475, 131011, 262143, 524287] n0 ⟨.store 104 (.l 0) (.l 2), .none, none, false, 19, none⟩) k)))))))))))))
  (zReg fun k => (zDst .push (vMv (.v 3))) ((zDst .push (vInt E fAdd .add 3 false true (.l 0) (.k (.int .i64 1)))) ((zDst (.var 3) (vMv (.l 0))) k)))))))))) zSkip))), []⟩
theorem G103_ok (fn : Nat → Option Func) (pu : Nat → Bool) (pr : Nat → List AV → Option (Heap → Option (Eff × Acc))) : ZOk ⟨Try.tyT, fn, pu, pr⟩ npT F103 (G103 ⟨Try.tyT, fn, pu, pr⟩) := ⟨rfl, rfl, rfl, fun cy Y k => by kernel_rfl⟩
noncomputable def F104 : FFn := ⟨63, [2, 1, 10, 0, 12, 3, 11, 13, 14, 55, 8, 9], (.seq (.reg [⟨.mv (.k (.int .i64 0)), (.var 10), none, true, 0, none⟩,
    ⟨.mv (.k (.int .i64 0)), (.var 11), none, true, 1, none⟩]) (.seq (.reg [⟨.bin .sub 3 false false (.v 0) (.v 1), .push, none, false, 2, none⟩,
    ⟨.mv (.l 0), (.var 2), none, true, 3, none⟩]) (.seq (.reg [⟨.alloc 3, (.var 6), none, false, 0, (some 0)⟩]) (.seq (.reg [⟨.bin .quo 3 false true (.v 2) (.k (.int .i64 4)), .push, none, false, 2, none⟩,
    ⟨.bin .mul 3 false true (.l 0) (.k (.int .i64 1)), .push, none, false, 3, none⟩,
    ⟨.bin .add 3 false false (.v 1) (.l 0), .push, none, false, 4, none⟩,
    ⟨.mv (.l 0), (.var 4), none, true, 5, none⟩]) (.seq (.reg [⟨.bin .quo 3 false true (.v 2) (.k (.int .i64 4)), .push, none, false, 2, none⟩,
    ⟨.bin .mul 3 false true (.l 0) (.k (.int .i64 2)), .push, none, false, 3, none⟩,
    ⟨.bin .add 3 false false (.v 1) (.l 0), .push, none, false, 4, none⟩,
    ⟨.mv (.l 0), (.var 7), none, true, 5, none⟩]) (.seq (.reg [⟨.bin .quo 3 false true (.v 2) (.k (.int .i64 4)), .push, none, false, 2, none⟩,
    ⟨.bin .mul 3 false true (.l 0) (.k (.int .i64 3)), .push, none, false, 3, none⟩,
    ⟨.bin .add 3 false false (.v 1) (.l 0), .push, none, false, 4, none⟩,
    ⟨.mv (.l 0), (.var 8), none, true, 5, none⟩]) (.seq (.seq (.reg [⟨.bin .geq 3 false true (.v 2) (.k (.int .i64 8)), .push, none, false, 1, none⟩]) (.cond (.l 0) (.seq (.seq (.reg [⟨.bin .geq 3 false true (.v 2) (.k (.int .i64 50)), .push, none, false, 1, none⟩]) (.cond (.l 0) (.seq (.reg [⟨.mv (.v 4), .push, none, true, 1, none⟩,
    ⟨.call 116 [(.v 3), (.l 0), (.v 6), (.v 5)], .push, none, false, 3, (some 0)⟩,
    ⟨.mv (.l 0), (.var 4), none, true, 4, none⟩]) (.seq (.reg [⟨.mv (.v 7), .push, none, true, 1, none⟩,
    ⟨.call 116 [(.v 3), (.l 0), (.v 6), (.v 5)], .push, none, false, 3, (some 0)⟩,
    ⟨.mv (.l 0), (.var 7), none, true, 4, none⟩]) (.reg [⟨.mv (.v 8), .push, none, true, 1, none⟩,
    ⟨.call 116 [(.v 3), (.l 0), (.v 6), (.v 5)], .push, none, false, 3, (some 0)⟩,
    ⟨.mv (.l 0), (.var 8), none, true, 4, none⟩]))) .skip)) (.reg [⟨.mv (.v 7), .push, none, true, 2, none⟩,
    ⟨.call 117 [(.v 3), (.v 4), (.l 0), (.v 8), (.v 6), (.v 5)], .push, none, false, 5, (some 0)⟩,
    ⟨.mv (.l 0), (.var 7), none, true, 6, none⟩])) .skip)) (.seq (.reg [⟨.load 3 (.v 6), (.var 9), none, true, 0, none⟩]) (.block 0 (.seq (.reg [⟨.bin .eql 3 false true (.v 9) (.k (.int .i64 0)), .push, none, false, 0, none⟩,
    ⟨.mv (.l 0), .push, none, true, 1, none⟩]) (.cond (.l 0) (.seq (.reg [⟨.mv (.v 7), (.var 10), none, true, 1, none⟩,
    ⟨.mv (.k (.int .i64 1)), (.var 11), none, true, 2, none⟩]) .ret) (.seq (.reg [⟨.bin .eql 3 false true (.v 9) (.k (.int .i64 12)), .push, none, false, 0, none⟩,
    ⟨.mv (.l 0), .push, none, true, 1, none⟩]) (.cond (.l 0) (.seq (.reg [⟨.mv (.v 7), (.var 10), none, true, 1, none⟩,
    ⟨.mv (.k (.int .i64 2)), (.var 11), none, true, 2, none⟩]) .ret) (.seq (.reg [⟨.mv (.v 7), (.var 10), none, true, 1, none⟩,
    ⟨.mv (.k (.int .i64 0)), (.var 11), none, true, 2, none⟩]) .ret)))))))))))))), [.tmp (.v 10), .tmp (.v 11)]⟩
noncomputable def G104 (E : Env) : ZFn := ⟨63, [2, 1, 10, 0, 12, 3, 11, 13, 14, 55, 8, 9], fun cy Y fuel =>
  (zSeq (zReg fun k => (zDst (.var 10) (vMv (.k (.int .i64 0)))) ((zDst (.var 11) (vMv (.k (.int .i64 0)))) k))
  (zSeq (zReg fun k => (zDst .push (vInt E fSub .sub 3 false false (.v 0) (.v 1))) ((zDst (.var 2) (vMv (.l 0))) k))
  (zSeq (zReg fun k => (zStep E (cy Y) ⟨.alloc 3, (.var 6), none, false, 0, (some 0)⟩) k)
  (zSeq (zReg fun k => (zDst .push (vInt E (fGen .quo) .quo 3 false true (.v 2) (.k (.int .i64 4)))) ((zDst .push (vInt E (fGen .mul) .mul 3 false true (.l 0) (.k (.int .i64 1)))) ((zDst .push (vInt E fAdd .add 3 false false (.v 1) (.l 0))) ((zDst (.var 4) (vMv (.l 0))) k))))
  (zSeq (zReg fun k => (zDst .push (vInt E (fGen .quo) .quo 3 false true (.v 2) (.k (.int .i64 4)))) ((zDst .push (vInt E (fGen .mul) .mul 3 false true (.l 0) (.k (.int .i64 2)))) ((zDst .push (vInt E fAdd .add 3 false false (.v 1) (.l 0))) ((zDst (.var 7) (vMv (.l 0))) k))))
  (zSeq (zReg fun k => (zDst .push (vInt E (fGen .quo) .quo 3 false true (.v 2) (.k (.int .i64 4)))) ((zDst .push (vInt E (fGen .mul) .mul 3 false true (.l 0) (.k (.int .i64 3)))) ((zDst .push (vInt E fAdd .add 3 false false (.v 1) (.l 0))) ((zDst (.var 8) (vMv (.l 0))) k))))
  (zSeq (zSeq (zReg fun k => (zDst .push (vInt E (fGen .geq) .geq 3 false true (.v 2) (.k (.int .i64 8)))) k)
  (zCond (.l 0) (zSeq (zSeq (zReg fun k => (zDst .push (vInt E (fGen .geq) .geq 3 false true (.v 2) (.k (.int .i64 50)))) k)
  (zCond (.l 0) (zSeq (zReg fun k => (zDst .push (vMv (.v 4))) ((zCall (cy Y) 116 [(.v 3), (.l 0), (.v 6), (.v 5)] .push) ((zDst (.var 4) (vMv (.l 0))) k)))
  (zSeq (zReg fun k => (zDst .push (vMv (.v 7))) ((zCall (cy Y) 116 [(.v 3), (.l 0), (.v 6), (.v 5)] .push) ((zDst (.var 7) (vMv (.l 0))) k)))
  (zReg fun k => (zDst .push (vMv (.v 8))) ((zCall (cy Y) 116 [(.v 3), (.l 0), (.v 6), (.v 5)] .push) ((zDst (.var 8) (vMv (.l 0))) k))))) zSkip))
  (zReg fun k => (zDst .push (vMv (.v 7))) ((zCall (cy Y) 117 [(.v 3), (.v 4), (.l 0), (.v 8), (.v 6), (.v 5)] .push) ((zDst (.var 7) (vMv (.l 0))) k)))) zSkip))
  (zSeq (zReg fun k => (zDstW (.var 9) (wLoad 1 false (.v 6))) k)
  (zBlock 0 (zSeq (zReg fun k => (zDst .push (vInt E fEql .eql 3 false true (.v 9) (.k (.int .i64 0)))) ((zDst .push (vMv (.l 0))) k))
  (zCond (.l 0) (zSeq (zReg fun k => (zDst (.var 10) (vMv (.v 7))) ((zDst (.var 11) (vMv (.k (.int .i64 1)))) k))
  zRet) (zSeq (zReg fun k => (zDst .push (vInt E fEql .eql 3 false true (.v 9) (.k (.int .i64 12)))) ((zDst .push (vMv (.l 0))) k))
  (zCond (.l 0) (zSeq (zReg fun k => (zDst (.var 10) (vMv (.v 7))) ((zDst (.var 11) (vMv (.k (.int .i64 2)))) k))
  zRet) (zSeq (zReg fun k => (zDst (.var 10) (vMv (.v 7))) ((zDst (.var 11) (vMv (.k (.int .i64 0)))) k))
  zRet)))))))))))))), [.tmp (.v 10), .tmp (.v 11)]⟩
theorem G104_ok (fn : Nat → Option Func) (pu : Nat → Bool) (pr : Nat → List AV → Option (Heap → Option (Eff × Acc))) : ZOk ⟨Try.tyT, fn, pu, pr⟩ npT F104 (G104 ⟨Try.tyT, fn, pu, pr⟩) := ⟨rfl, rfl, rfl, fun cy Y k => by kernel_rfl⟩
noncomputable def F105 : FFn := ⟨34, [1, 2, 8, 9, 0], (.seq (.reg [⟨.mv (.v 0), (.var 2), none, true, 1, none⟩]) (.seq (.reg [⟨.bin .sub 3 false true (.v 1) (.k (.int .i64 1)), .push, none, false, 1, none⟩,
    ⟨.mv (.l 0), (.var 3), none, true, 2, none⟩]) (.block 0 (.loop (.seq (.seq (.reg [⟨.bin .lss 3 false false (.v 2) (.v 3), .push, none, false, 2, none⟩]) (.cond (.l 0) .skip (.exit 0))) (.block 1 (.seq (.dreg 0 [0, 0, 0, 0, 0, 0, 48, 112, 0, 0, 768, 1792, 4083, 8179, 16383, 32767] [⟨.indexAddr 102 (.v 4) (.v 3), .push, none, true, 6, none⟩,
    ⟨.load 104 (.l 0), .push, none, true, 7, none⟩,
    ⟨.indexAddr 102 (.v 4) (.v 2), .push, none, true, 10, none⟩,
    ⟨.load 104 (.l 0), .push, none, true, 11, none⟩,
    ⟨.indexAddr 102 (.v 4) (.v 2), .push, none, true, 12, none⟩,
    ⟨.store 104 (.l 0) (.l 3), .none, none, false, 13, none⟩,
    ⟨.indexAddr 102 (.v 4) (.v 3), .push, none, true, 14, none⟩,
    ⟨.store 104 (.l 0) (.l 2), .none, none, false, 15, none⟩]) (.seq (.reg [⟨.mv (.v 2), .push, none, true, 0, none⟩,
    ⟨.bin .add 3 false true (.l 0) (.k (.int .i64 1)), .push, none, false, 1, none⟩,
    ⟨.mv (.l 0), (.var 2), none, true, 2, none⟩]) (.reg [⟨.mv (.v 3), .push, none, true, 0, none⟩,
    ⟨.bin .sub 3 false true (.l 0) (.k (.int .i64 1)), .push, none, false, 1, none⟩,
    ⟨.mv (.l 0), (.var 3), none, true, 2, none⟩]))))))))), []⟩
noncomputable def G105 (E : Env) : ZFn := ⟨34, [1, 2, 8, 9, 0], fun cy Y fuel =>
  (zSeq (zReg fun k => (zDst (.var 2) (vMv (.v 0))) k)
  (zSeq (zReg fun k => (zDst .push (vInt E fSub .sub 3 false true (.v 1) (.k (.int .i64 1)))) ((zDst (.var 3) (vMv (.l 0))) k))
  (zBlock 0 (zLoop fuel (zSeq (zSeq (zReg fun k => (zDst .push (vInt E fLss .lss 3 false false (.v 2) (.v 3))) k)
  (zCond (.l 0) zSkip (zExit 0)))
  (zBlock 1 (zSeq (zDreg 0 fun n0 k => (fun k sp => zDst .push (vIndexAddr 2 (.v 4) (.v 3)) (k sp)) ((zDstWD [0, 0, 0, 0, 0, 0, 48, 112, 0, 0, 768, 1792, 4083, 8179, 16383, 32767] 7 .push (wLoad 2 true (.l 0))) ((fun k sp => zDst .push (vIndexAddr 2 (.v 4) (.v 2)) (k sp)) ((zDstWD [0, 0, 0, 0, 0, 0, 48, 112, 0, 0, 768, 1792, 4083, 8179, 16383, 32767] 11 .push (wLoad 2 true (.l 0))) ((fun k sp => zDst .push (vIndexAddr 2 (.v 4) (.v 2)) (k sp)) ((zStepD E (cy Y) [0, 0, 0, 0, 0, 0, 48, 112, 0, 0, 768, 1792, 4083, 8179, 16383, 32767] n0 ⟨.store 104 (.l 0) (.l 3), .none, none, false, 13, none⟩) ((fun k sp => zDst .push (vIndexAddr 2 (.v 4) (.v 3)) (k sp)) ((zStepD E (cy Y) [0, 0, 0, 0, 0, 0, 48, 112, 0, 0, 768, 1792, 4083, 8179, 16383, 32767] n0 ⟨.store 104 (.l 0) (.l 2), .none, none, false, 15, none⟩) k))))))))
  (zSeq (zReg fun k => (zDst .push (vMv (.v 2))) ((zDst .push (vInt E fAdd .add 3 false true (.l 0) (.k (.int .i64 1)))) ((zDst (.var 2) (vMv (.l 0))) k)))
  (zReg fun k => (zDst .push (vMv (.v 3))) ((zDst .push (vInt E fSub .sub 3 false true (.l 0) (.k (.int .i64 1)))) ((zDst (.var 3) (vMv (.l 0))) k))))))))))), []⟩
theorem G105_ok (fn : Nat → Option Func) (pu : Nat → Bool) (pr : Nat → List AV → Option (Heap → Option (Eff × Acc))) : ZOk ⟨Try.tyT, fn, pu, pr⟩ npT F105 (G105 ⟨Try.tyT, fn, pu, pr⟩) := ⟨rfl, rfl, rfl, fun cy Y k => by kernel_rfl⟩
noncomputable def F106 : FFn := ⟨141, [1, 10, 9, 2, 3, 0, 11, 12, 8], (.seq (.reg [⟨.mv (.k (.bool false)), (.var 8), none, true, 0, none⟩]) (.seq (.reg [⟨.bin .add 3 false true (.v 0) (.k (.int .i64 1)), .push, none, false, 1, none⟩,
    ⟨.mv (.l 0), (.var 2), none, true, 2, none⟩]) (.seq (.seq (.reg [⟨.mv (.k (.int .i64 0)), (.var 1), none, true, 0, none⟩]) (.block 0 (.loop (.seq (.seq (.reg [⟨.bin .lss 3 false true (.v 1) (.k (.int .i64 5)), .push, none, false, 1, none⟩]) (.cond (.l 0) .skip (.exit 0))) (.seq (.block 1 (.seq (.block 2 (.loop (.seq (.seq (.dreg 1 [0, 0, 3, 7, 15, 15, 15, 111, 239, 15, 15, 1039, 3599, 7695, 16383, 32767, 65535, 131071] [⟨.bin .lss 3 false false (.v 2) (.v 3), .push, none, false, 2, none⟩,
    ⟨.mv (.v 4), .push, (some ((.l 0), true)), true, 4, none⟩,
    ⟨.mv (.v 5), .push, (some ((.l 1), true)), true, 5, none⟩,
    ⟨.mv (.v 2), .push, (some ((.l 2), true)), true, 6, none⟩,
    ⟨.indexAddr 102 (.l 1) (.l 0), .push, (some ((.l 3), true)), true, 7, none⟩,
    ⟨.load 104 (.l 0), .push, (some ((.l 4), true)), true, 8, none⟩,
    ⟨.mv (.v 5), .push, (some ((.l 5), true)), true, 9, none⟩,
    ⟨.mv (.v 2), .push, (some ((.l 6), true)), true, 10, none⟩,
    ⟨.bin .sub 3 false true (.l 0) (.k (.int .i64 1)), .push, (some ((.l 7), true)), false, 11, none⟩,
    ⟨.indexAddr 102 (.l 2) (.l 0), .push, (some ((.l 8), true)), true, 12, none⟩,
    ⟨.load 104 (.l 0), .push, (some ((.l 9), true)), true, 13, none⟩,
    ⟨.callv (.l 9) [(.l 5), (.l 0)], .push, (some ((.l 10), true)), false, 14, (some 0)⟩,
    ⟨.bin .lss 3 false true (.l 0) (.k (.int .i64 0)), .push, (some ((.l 11), true)), false, 15, none⟩,
    ⟨.un .not (.l 0), .push, (some ((.l 12), true)), false, 16, none⟩,
    ⟨.pick (.l 13) (.l 0) (.k (.bool false)), .push, none, true, 17, none⟩]) (.cond (.l 0) .skip (.exit 2))) (.block 3 (.reg [⟨.mv (.v 2), .push, none, true, 0, none⟩,
    ⟨.bin .add 3 false true (.l 0) (.k (.int .i64 1)), .push, none, false, 1, none⟩,
    ⟨.mv (.l 0), (.var 2), none, true, 2, none⟩]))))) (.seq (.seq (.reg [⟨.bin .eql 3 false false (.v 2) (.v 3), .push, none, false, 2, none⟩]) (.cond (.l 0) (.seq (.reg [⟨.mv (.k (.bool true)), (.var 8), none, true, 0, none⟩]) .ret) .skip)) (.seq (.seq (.reg [⟨.bin .sub 3 false false (.v 3) (.v 0), .push, none, false, 2, none⟩,
    ⟨.bin .lss 3 false true (.l 0) (.k (.int .i64 50)), .push, none, false, 3, none⟩]) (.cond (.l 0) (.seq (.reg [⟨.mv (.k (.bool false)), (.var 8), none, true, 0, none⟩]) .ret) .skip)) (.seq (.dreg 0 [0, 0, 0, 0, 8, 0, 0, 64, 224, 480, 0, 0, 3072, 7168, 16355, 32739, 65535, 131071] [⟨.bin .sub 3 false true (.v 2) (.k (.int .i64 1)), .push, none, false, 4, none⟩,
    ⟨.bin .sub 3 false true (.v 2) (.k (.int .i64 1)), .push, none, false, 7, none⟩,
    ⟨.indexAddr 102 (.v 5) (.l 0), .push, none, true, 8, none⟩,
    ⟨.load 104 (.l 0), .push, none, true, 9, none⟩,
    ⟨.indexAddr 102 (.v 5) (.v 2), .push, none, true, 12, none⟩,
    ⟨.load 104 (.l 0), .push, none, true, 13, none⟩,
    ⟨.indexAddr 102 (.v 5) (.v 2), .push, none, true, 14, none⟩,
    ⟨.store 104 (.l 0) (.l 3), .none, none, false, 15, none⟩,
    ⟨.indexAddr 102 (.v 5) (.l 6), .push, none, true, 16, none⟩,
    ⟨.store 104 (.l 0) (.l 2), .none, none, false, 17, none⟩]) (.seq (.seq (.reg [⟨.bin .sub 3 false false (.v 2) (.v 0), .push, none, false, 2, none⟩,
    ⟨.bin .geq 3 false true (.l 0) (.k (.int .i64 2)), .push, none, false, 3, none⟩]) (.cond (.l 0) (.seq (.reg [⟨.bin .sub 3 false true (.v 2) (.k (.int .i64 1)), .push, none, false, 1, none⟩,
    ⟨.mv (.l 0), (.var 6), none, true, 2, none⟩]) (.block 4 (.loop (.seq (.seq (.reg [⟨.bin .geq 3 false true (.v 6) (.k (.int .i64 1)), .push, none, false, 1, none⟩]) (.cond (.l 0) .skip (.exit 4))) (.seq (.block 5 (.seq (.seq (.dreg 1 [0, 0, 0, 6, 14, 0, 0, 64, 224, 480, 1023, 2047, 4095] [⟨.indexAddr 102 (.v 5) (.v 6), .push, none, true, 3, none⟩,
    ⟨.load 104 (.l 0), .push, none, true, 4, none⟩,
    ⟨.bin .sub 3 false true (.v 6) (.k (.int .i64 1)), .push, none, false, 7, none⟩,
    ⟨.indexAddr 102 (.v 5) (.l 0), .push, none, true, 8, none⟩,
    ⟨.load 104 (.l 0), .push, none, true, 9, none⟩,
    ⟨.callv (.v 4) [(.l 3), (.l 0)], .push, none, false, 10, (some 0)⟩,
    ⟨.bin .lss 3 false true (.l 0) (.k (.int .i64 0)), .push, none, false, 11, none⟩,
    ⟨.un .not (.l 0), .push, none, false, 12, none⟩]) (.cond (.l 0) (.exit 4) .skip)) (.dreg 0 [0, 0, 0, 0, 8, 0, 0, 64, 224, 480, 0, 0, 3072, 7168, 16355, 32739, 65535, 131071] [⟨.bin .sub 3 false true (.v 6) (.k (.int .i64 1)), .push, none, false, 4, none⟩,
    ⟨.bin .sub 3 false true (.v 6) (.k (.int .i64 1)), .push, none, false, 7, none⟩,
    ⟨.indexAddr 102 (.v 5) (.l 0), .push, none, true, 8, none⟩,
    ⟨.load 104 (.l 0), .push, none, true, 9, none⟩,
    ⟨.indexAddr 102 (.v 5) (.v 6), .push, none, true, 12, none⟩,
    ⟨.load 104 (.l 0), .push, none, true, 13, none⟩,
    ⟨.indexAddr 102 (.v 5) (.v 6), .push, none, true, 14, none⟩,
    ⟨.store 104 (.l 0) (.l 3), .none, none, false, 15, none⟩,
    ⟨.indexAddr 102 (.v 5) (.l 6), .push, none, true, 16, none⟩,
    ⟨.store 104 (.l 0) (.l 2), .none, none, false, 17, none⟩]))) (.reg [⟨.mv (.v 6), .push, none, true, 0, none⟩,
    ⟨.bin .sub 3 false true (.l 0) (.k (.int .i64 1)), .push, none, false, 1, none⟩,
    ⟨.mv (.l 0), (.var 6), none, true, 2, none⟩])))))) .skip)) (.seq (.reg [⟨.bin .sub 3 false false (.v 3) (.v 2), .push, none, false, 2, none⟩,
    ⟨.bin .geq 3 false true (.l 0) (.k (.int .i64 2)), .push, none, false, 3, none⟩]) (.cond (.l 0) (.seq (.reg [⟨.bin .add 3 false true (.v 2) (.k (.int .i64 1)), .push, none, false, 1, none⟩,
    ⟨.mv (.l 0), (.var 7), none, true, 2, none⟩]) (.block 6 (.loop (.seq (.seq (.reg [⟨.bin .lss 3 false false (.v 7) (.v 3), .push, none, false, 2, none⟩]) (.cond (.l 0) .skip (.exit 6))) (.seq (.block 7 (.seq (.seq (.dreg 1 [0, 0, 0, 6, 14, 0, 0, 64, 224, 480, 1023, 2047, 4095] [⟨.indexAddr 102 (.v 5) (.v 7), .push, none, true, 3, none⟩,
    ⟨.load 104 (.l 0), .push, none, true, 4, none⟩,
    ⟨.bin .sub 3 false true (.v 7) (.k (.int .i64 1)), .push, none, false, 7, none⟩,
    ⟨.indexAddr 102 (.v 5) (.l 0), .push, none, true, 8, none⟩,
    ⟨.load 104 (.l 0), .push, none, true, 9, none⟩,
    ⟨.callv (.v 4) [(.l 3), (.l 0)], .push, none, false, 10, (some 0)⟩,
    ⟨.bin .lss 3 false true (.l 0) (.k (.int .i64 0)), .push, none, false, 11, none⟩,
    ⟨.un .not (.l 0), .push, none, false, 12, none⟩]) (.cond (.l 0) (.exit 6) .skip)) (.dreg 0 [0, 0, 0, 0, 8, 0, 0, 64, 224, 480, 0, 0, 3072, 7168, 16355, 32739, 65535, 131071] [⟨.bin .sub 3 false true (.v 7) (.k (.int .i64 1)), .push, none, false, 4, none⟩,
    ⟨.bin .sub 3 false true (.v 7) (.k (.int .i64 1)), .push, none, false, 7, none⟩,
    ⟨.indexAddr 102 (.v 5) (.l 0), .push, none, true, 8, none⟩,
    ⟨.load 104 (.l 0), .push, none, true, 9, none⟩,
    ⟨.indexAddr 102 (.v 5) (.v 7), .push, none, true, 12, none⟩,
    ⟨.load 104 (.l 0), .push, none, true, 13, none⟩,
    ⟨.indexAddr 102 (.v 5) (.v 7), .push, none, true, 14, none⟩,
    ⟨.store 104 (.l 0) (.l 3), .none, none, false, 15, none⟩,
    ⟨.indexAddr 102 (.v 5) (.l 6), .push, none, true, 16, none⟩,
    ⟨.store 104 (.l 0) (.l 2), .none, none, false, 17, none⟩]))) (.reg [⟨.mv (.v 7), .push, none, true, 0, none⟩,
    ⟨.bin .add 3 false true (.l 0) (.k (.int .i64 1)), .push, none, false, 1, none⟩,
    ⟨.mv (.l 0), (.var 7), none, true, 2, none⟩])))))) .skip)))))))) (.reg [⟨.mv (.v 1), .push, none, true, 0, none⟩,
    ⟨.bin .add 3 false true (.l 0) (.k (.int .i64 1)), .push, none, false, 1, none⟩,
    ⟨.mv (.l 0), (.var 1), none, true, 2, none⟩])))))) (.seq (.reg [⟨.mv (.k (.bool false)), (.var 8), none, true, 0, none⟩]) .ret)))), [.tmp (.v 8)]⟩
noncomputable def G106 (E : Env) : ZFn := ⟨141, [1, 10, 9, 2, 3, 0, 11, 12, 8], fun cy Y fuel =>
  (zSeq (zReg fun k => (zDst (.var 8) (vMv (.k (.bool false)))) k)
  (zSeq (zReg fun k => (zDst .push (vInt E fAdd .add 3 false true (.v 0) (.k (.int .i64 1)))) ((zDst (.var 2) (vMv (.l 0))) k))
  (zSeq (zSeq (zReg fun k => (zDst (.var 1) (vMv (.k (.int .i64 0)))) k)
  (zBlock 0 (zLoop fuel (zSeq (zSeq (zReg fun k => (zDst .push (vInt E fLss .lss 3 false true (.v 1) (.k (.int .i64 5)))) k)
  (zCond (.l 0) zSkip (zExit 0)))
  (zSeq (zBlock 1 (zSeq (zBlock 2 (zLoop fuel (zSeq (zSeq (zDreg 1 fun n0 k => (fun k sp => zDst .push (vInt E fLss .lss 3 false false (.v 2) (.v 3)) (k sp)) ((zGD (.l 0) true .push (fun k sp => zDst .push (vMv (.v 4)) (k sp))) ((zGD (.l 1) true .push (fun k sp => zDst .push (vMv (.v 5)) (k sp))) ((zGD (.l 2) true .push (fun k sp => zDst .push (vMv (.v 2)) (k sp))) ((zGD (.l 3) true .push (fun k sp => zDst .push (vIndexAddr 2 (.l 1) (.l 0)) (k sp))) ((zGD (.l 4) true .push (zDstWD [0, 0, 3, 7, 15, 15, 15, 111, 239, 15, 15, 1039, 3599, 7695, 16383, 32767, 65535, 131071] 8 .push (wLoad 2 true (.l 0)))) ((zGD (.l 5) true .push (fun k sp => zDst .push (vMv (.v 5)) (k sp))) ((zGD (.l 6) true .push (fun k sp => zDst .push (vMv (.v 2)) (k sp))) ((zGD (.l 7) true .push (fun k sp => zDst .push (vInt E fSub .sub 3 false true (.l 0) (.k (.int .i64 1))) (k sp))) ((zGD (.l 8) true .push (fun k sp => zDst .push (vIndexAddr 2 (.l 2) (.l 0)) (k sp))) ((zGD (.l 9) true .push (zDstWD [0, 0, 3, 7, 15, 15, 15, 111, 239, 15, 15, 1039, 3599, 7695, 16383, 32767, 65535, 131071] 13 .push (wLoad 2 true (.l 0)))) ((zGD (.l 10) true .push (zStepD E (cy Y) [0, 0, 3, 7, 15, 15, 15, 111, 239, 15, 15, 1039, 3599, 7695, 16383, 32767, 65535, 131071] n0 ⟨.callv (.l 9) [(.l 5), (.l 0)], .push, none, false, 14, (some 0)⟩)) ((zGD (.l 11) true .push (fun k sp => zDst .push (vInt E fLss .lss 3 false true (.l 0) (.k (.int .i64 0))) (k sp))) ((zGD (.l 12) true .push (fun k sp => zDst .push (vNot (.l 0)) (k sp))) ((fun k sp => zDst .push (vPick (.l 13) (.l 0) (.k (.bool false))) (k sp)) k)))))))))))))))
  (zCond (.l 0) zSkip (zExit 2)))
  (zBlock 3 (zReg fun k => (zDst .push (vMv (.v 2))) ((zDst .push (vInt E fAdd .add 3 false true (.l 0) (.k (.int .i64 1)))) ((zDst (.var 2) (vMv (.l 0))) k)))))))
  (zSeq (zSeq (zReg fun k => (zDst .push (vInt E fEql .eql 3 false false (.v 2) (.v 3))) k)
  (zCond (.l 0) (zSeq (zReg fun k => (zDst (.var 8) (vMv (.k (.bool true)))) k)
  zRet) zSkip))
  (zSeq (zSeq (zReg fun k => (zDst .push (vInt E fSub .sub 3 false false (.v 3) (.v 0))) ((zDst .push (vInt E fLss .lss 3 false true (.l 0) (.k (.int .i64 50)))) k))
  (zCond (.l 0) (zSeq (zReg fun k => (zDst (.var 8) (vMv (.k (.bool false)))) k)
  zRet) zSkip))
  (zSeq (zDreg 0 fun n0 k => (fun k sp => zDst .push (vInt E fSub .sub 3 false true (.v 2) (.k (.int .i64 1))) (k sp)) ((fun k sp => zDst .push (vInt E fSub .sub 3 false true (.v 2) (.k (.int .i64 1))) (k sp)) ((fun k sp => zDst .push (vIndexAddr 2 (.v 5) (.l 0)) (k sp)) ((zDstWD [0, 0, 0, 0, 8, 0, 0, 64, 224, 480, 0, 0, 3072, 7168, 16355, 32739, 65535, 131071] 9 .push (wLoad 2 true (.l 0))) ((fun k sp => zDst .push (vIndexAddr 2 (.v 5) (.v 2)) (k sp)) ((zDstWD [0, 0, 0, 0, 8, 0, 0, 64, 224, 480, 0, 0, 3072, 7168, 16355, 32739, 65535, 131071] 13 .push (wLoad 2 true (.l 0))) ((fun k sp => zDst .push (vIndexAddr 2 (.v 5) (.v 2)) (k sp)) ((zStepD E (cy Y) [0, 0, 0, 0, 8, 0, 0, 64, 224, 480, 0, 0, 3072, 7168, 16355, 32739, 65535, 131071] n0 ⟨.store 104 (.l 0) (.l 3), .none, none, false, 15, none⟩) ((fun k sp => zDst .push (vIndexAddr 2 (.v 5) (.l 6)) (k sp)) ((zStepD E (cy Y) [0, 0, 0, 0, 8, 0, 0, 64, 224, 480, 0, 0, 3072, 7168, 16355, 32739, 65535, 131071] n0 ⟨.store 104 (.l 0) (.l 2), .none, none, false, 17, none⟩) k))))))))))
  (zSeq (zSeq (zReg fun k => (zDst .push (vInt E fSub .sub 3 false false (.v 2) (.v 0))) ((zDst .push (vInt E (fGen .geq) .geq 3 false true (.l 0) (.k (.int .i64 2)))) k))
  (zCond (.l 0) (zSeq (zReg fun k => (zDst .push (vInt E fSub .sub 3 false true (.v 2) (.k (.int .i64 1)))) ((zDst (.var 6) (vMv (.l 0))) k))
  (zBlock 4 (zLoop fuel (zSeq (zSeq (zReg fun k => (zDst .push (vInt E (fGen .geq) .geq 3 false true (.v 6) (.k (.int .i64 1)))) k)
  (zCond (.l 0) zSkip (zExit 4)))
  (zSeq (zBlock 5 (zSeq (zSeq (zDreg 1 fun n0 k => (fun k sp => zDst .push (vIndexAddr 2 (.v 5) (.v 6)) (k sp)) ((zDstWD [0, 0, 0, 6, 14, 0, 0, 64, 224, 480, 1023, 2047, 4095] 4 .push (wLoad 2 true (.l 0))) ((fun k sp => zDst .push (vInt E fSub .sub 3 false true (.v 6) (.k (.int .i64 1))) (k sp)) ((fun k sp => zDst .push (vIndexAddr 2 (.v 5) (.l 0)) (k sp)) ((zDstWD [0, 0, 0, 6, 14, 0, 0, 64, 224, 480, 1023, 2047, 4095] 9 .push (wLoad 2 true (.l 0))) ((zStepD E (cy Y) [0, 0, 0, 6, 14, 0, 0, 64, 224, 480, 1023, 2047, 4095] n0 ⟨.callv (.v 4) [(.l 3), (.l 0)], .push, none, false, 10, (some 0)⟩) ((fun k sp => zDst .push (vInt E fLss .lss 3 false true (.l 0) (.k (.int .i64 0))) (k sp)) ((fun k sp => zDst .push (vNot (.l 0)) (k sp)) k))))))))
  (zCond (.l 0) (zExit 4) zSkip))
  (zDreg 0 fun n0 k => (fun k sp => zDst .push (vInt E fSub .sub 3 false true (.v 6) (.k (.int .i64 1))) (k sp)) ((fun k sp => zDst .push (vInt E fSub .sub 3 false true (.v 6) (.k (.int .i64 1))) (k sp)) ((fun k sp => zDst .push (vIndexAddr 2 (.v 5) (.l 0)) (k sp)) ((zDstWD [0, 0, 0, 0, 8, 0, 0, 64, 224, 480, 0, 0, 3072, 7168, 16355, 32739, 65535, 131071] 9 .push (wLoad 2 true (.l 0))) ((fun k sp => zDst .push (vIndexAddr 2 (.v 5) (.v 6)) (k sp)) ((zDstWD [0, 0, 0, 0, 8, 0, 0, 64, 224, 480, 0, 0, 3072, 7168, 16355, 32739, 65535, 131071] 13 .push (wLoad 2 true (.l 0))) ((fun k sp => zDst .push (vIndexAddr 2 (.v 5) (.v 6)) (k sp)) ((zStepD E (cy Y) [0, 0, 0, 0, 8, 0, 0, 64, 224, 480, 0, 0, 3072, 7168, 16355, 32739, 65535, 131071] n0 ⟨.store 104 (.l 0) (.l 3), .none, none, false, 15, none⟩) ((fun k sp => zDst .push (vIndexAddr 2 (.v 5) (.l 6)) (k sp)) ((zStepD E (cy Y) [0, 0, 0, 0, 8, 0, 0, 64, 224, 480, 0, 0, 3072, 7168, 16355, 32739, 65535, 131071] n0 ⟨.store 104 (.l 0) (.l 2), .none, none, false, 17, none⟩) k))))))))))))
  (zReg fun k => (zDst .push (vMv (.v 6))) ((zDst .push (vInt E fSub .sub 3 false true (.l 0) (.k (.int .i64 1)))) ((zDst (.var 6) (vMv (.l 0))) k)))))))) zSkip))
  (zSeq (zReg fun k => (zDst .push (vInt E fSub .sub 3 false false (.v 3) (.v 2))) ((zDst .push (vInt E (fGen .geq) .geq 3 false true (.l 0) (.k (.int .i64 2)))) k))
  (zCond (.l 0) (zSeq (zReg fun k => (zDst .push (vInt E fAdd .add 3 false true (.v 2) (.k (.int .i64 1)))) ((zDst (.var 7) (vMv (.l 0))) k))
  (zBlock 6 (zLoop fuel (zSeq (zSeq (zReg fun k => (zDst .push (vInt E fLss .lss 3 false false (.v 7) (.v 3))) k)
  (zCond (.l 0) zSkip (zExit 6)))
  (zSeq (zBlock 7 (zSeq (zSeq (zDreg 1 fun n0 k => (fun k sp => zDst .push (vIndexAddr 2 (.v 5) (.v 7)) (k sp)) ((zDstWD [0, 0, 0, 6, 14, 0, 0, 64, 224, 480, 1023, 2047, 4095] 4 .push (wLoad 2 true (.l 0))) ((fun k sp => zDst .push (vInt E fSub .sub 3 false true (.v 7) (.k (.int .i64 1))) (k sp)) ((fun k sp => zDst .push (vIndexAddr 2 (.v 5) (.l 0)) (k sp)) ((zDstWD [0, 0, 0, 6, 14, 0, 0, 64, 224, 480, 1023, 2047, 4095] 9 .push (wLoad 2 true (.l 0))) ((zStepD E (cy Y) [0, 0, 0, 6, 14, 0, 0, 64, 224, 480, 1023, 2047, 4095] n0 ⟨.callv (.v 4) [(.l 3), (.l 0)], .push, none, false, 10, (some 0)⟩) ((fun k sp => zDst .push (vInt E fLss .lss 3 false true (.l 0) (.k (.int .i64 0))) (k sp)) ((fun k sp => zDst .push (vNot (.l 0)) (k sp)) k))))))))
  (zCond (.l 0) (zExit 6) zSkip))
  (zDreg 0 fun n0 k => (fun k sp => zDst .push (vInt E fSub .sub 3 false true (.v 7) (.k (.int .i64 1))) (k sp)) ((fun k sp => zDst .push (vInt E fSub .sub 3 false true (.v 7) (.k (.int .i64 1))) (k sp)) ((fun k sp => zDst .push (vIndexAddr 2 (.v 5) (.l 0)) (k sp)) ((zDstWD [0, 0, 0, 0, 8, 0, 0, 64, 224, 480, 0, 0, 3072, 7168, 16355, 32739, 65535, 131071] 9 .push (wLoad 2 true (.l 0))) ((fun k sp => zDst .push (vIndexAddr 2 (.v 5) (.v 7)) (k sp)) ((zDstWD [0, 0, 0, 0, 8, 0, 0, 64, 224, 480, 0, 0, 3072, 7168, 16355, 32739, 65535, 131071] 13 .push (wLoad 2 true (.l 0))) ((fun k sp => zDst .push (vIndexAddr 2 (.v 5) (.v 7)) (k sp)) ((zStepD E (cy Y) [0, 0, 0, 0, 8, 0, 0, 64, 224, 480, 0, 0, 3072, 7168, 16355, 32739, 65535, 131071] n0 ⟨.store 104 (.l 0) (.l 3), .none, none, false, 15, none⟩) ((fun k sp => zDst .push (vIndexAddr 2 (.v 5) (.l 6)) (k sp)) ((zStepD E (cy Y) [0, 0, 0, 0, 8, 0, 0, 64, 224, 480, 0, 0, 3072, 7168, 16355, 32739, 65535, 131071] n0 ⟨.store 104 (.l 0) (.l 2), .none, none, false, 17, none⟩) k))))))))))))
  (zReg fun k => (zDst .push (vMv (.v 7))) ((zDst .push (vInt E fAdd .add 3 false true (.l 0) (.k (.int .i64 1)))) ((zDst (.var 7) (vMv (.l 0))) k)))))))) zSkip))))))))
  (zReg fun k => (zDst .push (vMv (.v 1))) ((zDst .push (vInt E fAdd .add 3 false true (.l 0) (.k (.int .i64 1)))) ((zDst (.var 1) (vMv (.l 0))) k))))))))
  (zSeq (zReg fun k => (zDst (.var 8) (vMv (.k (.bool false)))) k)
  zRet)))), [.tmp (.v 8)]⟩
theorem G106_ok (fn : Nat → Option Func) (pu : Nat → Bool) (pr : Nat → List AV → Option (Heap → Option (Eff × Acc))) : ZOk ⟨Try.tyT, fn, pu, pr⟩ npT F106 (G106 ⟨Try.tyT, fn, pu, pr⟩) := ⟨rfl, rfl, rfl, fun cy Y k => by kernel_rfl⟩
noncomputable def F107 : FFn := ⟨90, [0, 1, 3, 2, 11, 12, 4, 10], (.seq (.reg [⟨.mv (.k (.int .i64 0)), (.var 7), none, true, 0, none⟩]) (.seq (.dreg 0 [0, 0, 0, 0, 0, 0, 48, 112, 0, 0, 768, 1792, 4083, 8179, 16383, 32767] [⟨.indexAddr 102 (.v 0) (.v 2), .push, none, true, 6, none⟩,
    ⟨.load 104 (.l 0), .push, none, true, 7, none⟩,
    ⟨.indexAddr 102 (.v 0) (.v 1), .push, none, true, 10, none⟩,
    ⟨.load 104 (.l 0), .push, none, true, 11, none⟩,
    ⟨.indexAddr 102 (.v 0) (.v 1), .push, none, true, 12, none⟩,
    ⟨.store 104 (.l 0) (.l 3), .none, none, false, 13, none⟩,
    ⟨.indexAddr 102 (.v 0) (.v 2), .push, none, true, 14, none⟩,
    ⟨.store 104 (.l 0) (.l 2), .none, none, false, 15, none⟩]) (.seq (.reg [⟨.bin .add 3 false true (.v 1) (.k (.int .i64 1)), .push, none, false, 1, none⟩,
    ⟨.bin .sub 3 false true (.v 3) (.k (.int .i64 1)), .push, none, false, 3, none⟩,
    ⟨.mv (.l 1), (.var 4), none, true, 4, none⟩,
    ⟨.mv (.l 0), (.var 5), none, true, 5, none⟩]) (.seq (.block 0 (.loop (.block 1 (.seq (.block 2 (.loop (.seq (.seq (.dreg 1 [0, 0, 3, 7, 15, 15, 15, 111, 239, 15, 15, 1551, 3599, 8191, 16383, 32767, 65535] [⟨.bin .leq 3 false false (.v 4) (.v 5), .push, none, false, 2, none⟩,
    ⟨.mv (.v 6), .push, (some ((.l 0), true)), true, 4, none⟩,
    ⟨.mv (.v 0), .push, (some ((.l 1), true)), true, 5, none⟩,
    ⟨.mv (.v 1), .push, (some ((.l 2), true)), true, 6, none⟩,
    ⟨.indexAddr 102 (.l 1) (.l 0), .push, (some ((.l 3), true)), true, 7, none⟩,
    ⟨.load 104 (.l 0), .push, (some ((.l 4), true)), true, 8, none⟩,
    ⟨.mv (.v 0), .push, (some ((.l 5), true)), true, 9, none⟩,
    ⟨.mv (.v 4), .push, (some ((.l 6), true)), true, 10, none⟩,
    ⟨.indexAddr 102 (.l 1) (.l 0), .push, (some ((.l 7), true)), true, 11, none⟩,
    ⟨.load 104 (.l 0), .push, (some ((.l 8), true)), true, 12, none⟩,
    ⟨.callv (.l 8) [(.l 4), (.l 0)], .push, (some ((.l 9), true)), false, 13, (some 0)⟩,
    ⟨.bin .lss 3 false true (.l 0) (.k (.int .i64 0)), .push, (some ((.l 10), true)), false, 14, none⟩,
    ⟨.un .not (.l 0), .push, (some ((.l 11), true)), false, 15, none⟩,
    ⟨.pick (.l 12) (.l 0) (.k (.bool false)), .push, none, true, 16, none⟩]) (.cond (.l 0) .skip (.exit 2))) (.block 3 (.reg [⟨.mv (.v 4), .push, none, true, 0, none⟩,
    ⟨.bin .add 3 false true (.l 0) (.k (.int .i64 1)), .push, none, false, 1, none⟩,
    ⟨.mv (.l 0), (.var 4), none, true, 2, none⟩]))))) (.seq (.block 4 (.loop (.seq (.seq (.dreg 1 [0, 0, 3, 7, 15, 15, 15, 111, 239, 15, 15, 1551, 3599, 8191, 16383, 32767] [⟨.bin .leq 3 false false (.v 4) (.v 5), .push, none, false, 2, none⟩,
    ⟨.mv (.v 6), .push, (some ((.l 0), true)), true, 4, none⟩,
    ⟨.mv (.v 0), .push, (some ((.l 1), true)), true, 5, none⟩,
    ⟨.mv (.v 1), .push, (some ((.l 2), true)), true, 6, none⟩,
    ⟨.indexAddr 102 (.l 1) (.l 0), .push, (some ((.l 3), true)), true, 7, none⟩,
    ⟨.load 104 (.l 0), .push, (some ((.l 4), true)), true, 8, none⟩,
    ⟨.mv (.v 0), .push, (some ((.l 5), true)), true, 9, none⟩,
    ⟨.mv (.v 5), .push, (some ((.l 6), true)), true, 10, none⟩,
    ⟨.indexAddr 102 (.l 1) (.l 0), .push, (some ((.l 7), true)), true, 11, none⟩,
    ⟨.load 104 (.l 0), .push, (some ((.l 8), true)), true, 12, none⟩,
    ⟨.callv (.l 8) [(.l 4), (.l 0)], .push, (some ((.l 9), true)), false, 13, (some 0)⟩,
    ⟨.bin .lss 3 false true (.l 0) (.k (.int .i64 0)), .push, (some ((.l 10), true)), false, 14, none⟩,
    ⟨.pick (.l 11) (.l 0) (.k (.bool false)), .push, none, true, 15, none⟩]) (.cond (.l 0) .skip (.exit 4))) (.block 5 (.reg [⟨.mv (.v 5), .push, none, true, 0, none⟩,
    ⟨.bin .sub 3 false true (.l 0) (.k (.int .i64 1)), .push, none, false, 1, none⟩,
    ⟨.mv (.l 0), (.var 5), none, true, 2, none⟩]))))) (.seq (.seq (.reg [⟨.bin .gtr 3 false false (.v 4) (.v 5), .push, none, false, 2, none⟩]) (.cond (.l 0) (.exit 0) .skip)) (.seq (.dreg 0 [0, 0, 0, 0, 0, 0, 48, 112, 0, 0, 768, 1792, 4083, 8179, 16383, 32767] [⟨.indexAddr 102 (.v 0) (.v 5), .push, none, true, 6, none⟩,
    ⟨.load 104 (.l 0), .push, none, true, 7, none⟩,
    ⟨.indexAddr 102 (.v 0) (.v 4), .push, none, true, 10, none⟩,
    ⟨.load 104 (.l 0), .push, none, true, 11, none⟩,
    ⟨.indexAddr 102 (.v 0) (.v 4), .push, none, true, 12, none⟩,
    ⟨.store 104 (.l 0) (.l 3), .none, none, false, 13, none⟩,
    ⟨.indexAddr 102 (.v 0) (.v 5), .push, none, true, 14, none⟩,
    ⟨.store 104 (.l 0) (.l 2), .none, none, false, 15, none⟩]) (.seq (.reg [⟨.mv (.v 4), .push, none, true, 0, none⟩,
    ⟨.bin .add 3 false true (.l 0) (.k (.int .i64 1)), .push, none, false, 1, none⟩,
    ⟨.mv (.l 0), (.var 4), none, true, 2, none⟩]) (.reg [⟨.mv (.v 5), .push, none, true, 0, none⟩,
    ⟨.bin .sub 3 false true (.l 0) (.k (.int .i64 1)), .push, none, false, 1, none⟩,
    ⟨.mv (.l 0), (.var 5), none, true, 2, none⟩]))))))))) (.seq (.reg [⟨.mv (.v 4), (.var 7), none, true, 1, none⟩]) .ret))))), [.tmp (.v 7)]⟩
noncomputable def G107 (E : Env) : ZFn := ⟨90, [0, 1, 3, 2, 11, 12, 4, 10], fun cy Y fuel =>
  (zSeq (zReg fun k => (zDst (.var 7) (vMv (.k (.int .i64 0)))) k)
  (zSeq (zDreg 0 fun n0 k => (fun k sp => zDst .push (vIndexAddr 2 (.v 0) (.v 2)) (k sp)) ((zDstWD [0, 0, 0, 0, 0, 0, 48, 112, 0, 0, 768, 1792, 4083, 8179, 16383, 32767] 7 .push (wLoad 2 true (.l 0))) ((fun k sp => zDst .push (vIndexAddr 2 (.v 0) (.v 1)) (k sp)) ((zDstWD [0, 0, 0, 0, 0, 0, 48, 112, 0, 0, 768, 1792, 4083, 8179, 16383, 32767] 11 .push (wLoad 2 true (.l 0))) ((fun k sp => zDst .push (vIndexAddr 2 (.v 0) (.v 1)) (k sp)) ((zStepD E (cy Y) [0, 0, 0, 0, 0, 0, 48, 112, 0, 0, 768, 1792, 4083, 8179, 16383, 32767] n0 ⟨.store 104 (.l 0) (.l 3), .none, none, false, 13, none⟩) ((fun k sp => zDst .push (vIndexAddr 2 (.v 0) (.v 2)) (k sp)) ((zStepD E (cy Y) [0, 0, 0, 0, 0, 0, 48, 112, 0, 0, 768, 1792, 4083, 8179, 16383, 32767] n0 ⟨.store 104 (.l 0) (.l 2), .none, none, false, 15, none⟩) k))))))))
  (zSeq (zReg fun k => (zDst .push (vInt E fAdd .add 3 false true (.v 1) (.k (.int .i64 1)))) ((zDst .push (vInt E fSub .sub 3 false true (.v 3) (.k (.int .i64 1)))) ((zDst (.var 4) (vMv (.l 1))) ((zDst (.var 5) (vMv (.l 0))) k))))
  (zSeq (zBlock 0 (zLoop fuel (zBlock 1 (zSeq (zBlock 2 (zLoop fuel (zSeq (zSeq (zDreg 1 fun n0 k => (fun k sp => zDst .push (vInt E (fGen .leq) .leq 3 false false (.v 4) (.v 5)) (k sp)) ((zGD (.l 0) true .push (fun k sp => zDst .push (vMv (.v 6)) (k sp))) ((zGD (.l 1) true .push (fun k sp => zDst .push (vMv (.v 0)) (k sp))) ((zGD (.l 2) true .push (fun k sp => zDst .push (vMv (.v 1)) (k sp))) ((zGD (.l 3) true .push (fun k sp => zDst .push (vIndexAddr 2 (.l 1) (.l 0)) (k sp))) ((zGD (.l 4) true .push (zDstWD [0, 0, 3, 7, 15, 15, 15, 111, 239, 15, 15, 1551, 3599, 8191, 16383, 32767, 65535] 8 .push (wLoad 2 true (.l 0)))) ((zGD (.l 5) true .push (fun k sp => zDst .push (vMv (.v 0)) (k sp))) ((zGD (.l 6) true .push (fun k sp => zDst .push (vMv (.v 4)) (k sp))) ((zGD (.l 7) true .push (fun k sp => zDst .push (vIndexAddr 2 (.l 1) (.l 0)) (k sp))) ((zGD (.l 8) true .push (zDstWD [0, 0, 3, 7, 15, 15, 15, 111, 239, 15, 15, 1551, 3599, 8191, 16383, 32767, 65535] 12 .push (wLoad 2 true (.l 0)))) ((zGD (.l 9) true .push (zStepD E (cy Y) [0, 0, 3, 7, 15, 15, 15, 111, 239, 15, 15, 1551, 3599, 8191, 16383, 32767, 65535] n0 ⟨.callv (.l 8) [(.l 4), (.l 0)], .push, none, false, 13, (some 0)⟩)) ((zGD (.l 10) true .push (fun k sp => zDst .push (vInt E fLss .lss 3 false true (.l 0) (.k (.int .i64 0))) (k sp))) ((zGD (.l 11) true .push (fun k sp => zDst .push (vNot (.l 0)) (k sp))) ((fun k sp => zDst .push (vPick (.l 12) (.l 0) (.k (.bool false))) (k sp)) k))))))))))))))
  (zCond (.l 0) zSkip (zExit 2)))
  (zBlock 3 (zReg fun k => (zDst .push (vMv (.v 4))) ((zDst .push (vInt E fAdd .add 3 false true (.l 0) (.k (.int .i64 1)))) ((zDst (.var 4) (vMv (.l 0))) k)))))))
  (zSeq (zBlock 4 (zLoop fuel (zSeq (zSeq (zDreg 1 fun n0 k => (fun k sp => zDst .push (vInt E (fGen .leq) .leq 3 false false (.v 4) (.v 5)) (k sp)) ((zGD (.l 0) true .push (fun k sp => zDst .push (vMv (.v 6)) (k sp))) ((zGD (.l 1) true .push (fun k sp => zDst .push (vMv (.v 0)) (k sp))) ((zGD (.l 2) true .push (fun k sp => zDst .push (vMv (.v 1)) (k sp))) ((zGD (.l 3) true .push (fun k sp => zDst .push (vIndexAddr 2 (.l 1) (.l 0)) (k sp))) ((zGD (.l 4) true .push (zDstWD [0, 0, 3, 7, 15, 15, 15, 111, 239, 15, 15, 1551, 3599, 8191, 16383, 32767] 8 .push (wLoad 2 true (.l 0)))) ((zGD (.l 5) true .push (fun k sp => zDst .push (vMv (.v 0)) (k sp))) ((zGD (.l 6) true .push (fun k sp => zDst .push (vMv (.v 5)) (k sp))) ((zGD (.l 7) true .push (fun k sp => zDst .push (vIndexAddr 2 (.l 1) (.l 0)) (k sp))) ((zGD (.l 8) true .push (zDstWD [0, 0, 3, 7, 15, 15, 15, 111, 239, 15, 15, 1551, 3599, 8191, 16383, 32767] 12 .push (wLoad 2 true (.l 0)))) ((zGD (.l 9) true .push (zStepD E (cy Y) [0, 0, 3, 7, 15, 15, 15, 111, 239, 15, 15, 1551, 3599, 8191, 16383, 32767] n0 ⟨.callv (.l 8) [(.l 4), (.l 0)], .push, none, false, 13, (some 0)⟩)) ((zGD (.l 10) true .push (fun k sp => zDst .push (vInt E fLss .lss 3 false true (.l 0) (.k (.int .i64 0))) (k sp))) ((fun k sp => zDst .push (vPick (.l 11) (.l 0) (.k (.bool false))) (k sp)) k)))))))))))))
  (zCond (.l 0) zSkip (zExit 4)))
  (zBlock 5 (zReg fun k => (zDst .push (vMv (.v 5))) ((zDst .push (vInt E fSub .sub 3 false true (.l 0) (.k (.int .i64 1)))) ((zDst (.var 5) (vMv (.l 0))) k)))))))
  (zSeq (zSeq (zReg fun k => (zDst .push (vInt E fGtr .gtr 3 false false (.v 4) (.v 5))) k)
  (zCond (.l 0) (zExit 0) zSkip))
  (zSeq (zDreg 0 fun n0 k => (fun k sp => zDst .push (vIndexAddr 2 (.v 0) (.v 5)) (k sp)) ((zDstWD [0, 0, 0, 0, 0, 0, 48, 112, 0, 0, 768, 1792, 4083, 8179, 16383, 32767] 7 .push (wLoad 2 true (.l 0))) ((fun k sp => zDst .push (vIndexAddr 2 (.v 0) (.v 4)) (k sp)) ((zDstWD [0, 0, 0, 0, 0, 0, 48, 112, 0, 0, 768, 1792, 4083, 8179, 16383, 32767] 11 .push (wLoad 2 true (.l 0))) ((fun k sp => zDst .push (vIndexAddr 2 (.v 0) (.v 4)) (k sp)) ((zStepD E (cy Y) [0, 0, 0, 0, 0, 0, 48, 112, 0, 0, 768, 1792, 4083, 8179, 16383, 32767] n0 ⟨.store 104 (.l 0) (.l 3), .none, none, false, 13, none⟩) ((fun k sp => zDst .push (vIndexAddr 2 (.v 0) (.v 5)) (k sp)) ((zStepD E (cy Y) [0, 0, 0, 0, 0, 0, 48, 112, 0, 0, 768, 1792, 4083, 8179, 16383, 32767] n0 ⟨.store 104 (.l 0) (.l 2), .none, none, false, 15, none⟩) k))))))))
  (zSeq (zReg fun k => (zDst .push (vMv (.v 4))) ((zDst .push (vInt E fAdd .add 3 false true (.l 0) (.k (.int .i64 1)))) ((zDst (.var 4) (vMv (.l 0))) k)))
  (zReg fun k => (zDst .push (vMv (.v 5))) ((zDst .push (vInt E fSub .sub 3 false true (.l 0) (.k (.int .i64 1)))) ((zDst (.var 5) (vMv (.l 0))) k)))))))))))
  (zSeq (zReg fun k => (zDst (.var 7) (vMv (.v 4))) k)
  zRet))))), [.tmp (.v 7)]⟩
theorem G107_ok (fn : Nat → Option Func) (pu : Nat → Bool) (pr : Nat → List AV → Option (Heap → Option (Eff × Acc))) : ZOk ⟨Try.tyT, fn, pu, pr⟩ npT F107 (G107 ⟨Try.tyT, fn, pu, pr⟩) := ⟨rfl, rfl, rfl, fun cy Y k => by kernel_rfl⟩
noncomputable def F108 : FFn := ⟨178, [0, 1, 3, 2, 12, 13, 4, 10, 11], (.seq (.reg [⟨.mv (.k (.int .i64 0)), (.var 7), none, true, 0, none⟩,
    ⟨.mv (.k (.bool false)), (.var 8), none, true, 1, none⟩]) (.seq (.dreg 0 [0, 0, 0, 0, 0, 0, 48, 112, 0, 0, 768, 1792, 4083, 8179, 16383, 32767] [⟨.indexAddr 102 (.v 0) (.v 2), .push, none, true, 6, none⟩,
    ⟨.load 104 (.l 0), .push, none, true, 7, none⟩,
    ⟨.indexAddr 102 (.v 0) (.v 1), .push, none, true, 10, none⟩,
    ⟨.load 104 (.l 0), .push, none, true, 11, none⟩,
    ⟨.indexAddr 102 (.v 0) (.v 1), .push, none, true, 12, none⟩,
    ⟨.store 104 (.l 0) (.l 3), .none, none, false, 13, none⟩,
    ⟨.indexAddr 102 (.v 0) (.v 2), .push, none, true, 14, none⟩,
    ⟨.store 104 (.l 0) (.l 2), .none, none, false, 15, none⟩]) (.seq (.reg [⟨.bin .add 3 false true (.v 1) (.k (.int .i64 1)), .push, none, false, 1, none⟩,
    ⟨.bin .sub 3 false true (.v 3) (.k (.int .i64 1)), .push, none, false, 3, none⟩,
    ⟨.mv (.l 1), (.var 4), none, true, 4, none⟩,
    ⟨.mv (.l 0), (.var 5), none, true, 5, none⟩]) (.seq (.block 0 (.loop (.seq (.seq (.dreg 1 [0, 0, 3, 7, 15, 15, 15, 111, 239, 15, 15, 1551, 3599, 8191, 16383, 32767] [⟨.bin .leq 3 false false (.v 4) (.v 5), .push, none, false, 2, none⟩,
    ⟨.mv (.v 6), .push, (some ((.l 0), true)), true, 4, none⟩,
    ⟨.mv (.v 0), .push, (some ((.l 1), true)), true, 5, none⟩,
    ⟨.mv (.v 4), .push, (some ((.l 2), true)), true, 6, none⟩,
    ⟨.indexAddr 102 (.l 1) (.l 0), .push, (some ((.l 3), true)), true, 7, none⟩,
    ⟨.load 104 (.l 0), .push, (some ((.l 4), true)), true, 8, none⟩,
    ⟨.mv (.v 0), .push, (some ((.l 5), true)), true, 9, none⟩,
    ⟨.mv (.v 1), .push, (some ((.l 6), true)), true, 10, none⟩,
    ⟨.indexAddr 102 (.l 1) (.l 0), .push, (some ((.l 7), true)), true, 11, none⟩,
    ⟨.load 104 (.l 0), .push, (some ((.l 8), true)), true, 12, none⟩,
    ⟨.callv (.l 8) [(.l 4), (.l 0)], .push, (some ((.l 9), true)), false, 13, (some 0)⟩,
    ⟨.bin .lss 3 false true (.l 0) (.k (.int .i64 0)), .push, (some ((.l 10), true)), false, 14, none⟩,
    ⟨.pick (.l 11) (.l 0) (.k (.bool false)), .push, none, true, 15, none⟩]) (.cond (.l 0) .skip (.exit 0))) (.block 1 (.reg [⟨.mv (.v 4), .push, none, true, 0, none⟩,
    ⟨.bin .add 3 false true (.l 0) (.k (.int .i64 1)), .push, none, false, 1, none⟩,
    ⟨.mv (.l 0), (.var 4), none, true, 2, none⟩]))))) (.seq (.block 2 (.loop (.seq (.seq (.dreg 1 [0, 0, 3, 7, 15, 15, 15, 111, 239, 15, 15, 1551, 3599, 8191, 16383, 32767, 65535] [⟨.bin .leq 3 false false (.v 4) (.v 5), .push, none, false, 2, none⟩,
    ⟨.mv (.v 6), .push, (some ((.l 0), true)), true, 4, none⟩,
    ⟨.mv (.v 0), .push, (some ((.l 1), true)), true, 5, none⟩,
    ⟨.mv (.v 5), .push, (some ((.l 2), true)), true, 6, none⟩,
    ⟨.indexAddr 102 (.l 1) (.l 0), .push, (some ((.l 3), true)), true, 7, none⟩,
    ⟨.load 104 (.l 0), .push, (some ((.l 4), true)), true, 8, none⟩,
    ⟨.mv (.v 0), .push, (some ((.l 5), true)), true, 9, none⟩,
    ⟨.mv (.v 1), .push, (some ((.l 6), true)), true, 10, none⟩,
    ⟨.indexAddr 102 (.l 1) (.l 0), .push, (some ((.l 7), true)), true, 11, none⟩,
    ⟨.load 104 (.l 0), .push, (some ((.l 8), true)), true, 12, none⟩,
    ⟨.callv (.l 8) [(.l 4), (.l 0)], .push, (some ((.l 9), true)), false, 13, (some 0)⟩,
    ⟨.bin .lss 3 false true (.l 0) (.k (.int .i64 0)), .push, (some ((.l 10), true)), false, 14, none⟩,
    ⟨.un .not (.l 0), .push, (some ((.l 11), true)), false, 15, none⟩,
    ⟨.pick (.l 12) (.l 0) (.k (.bool false)), .push, none, true, 16, none⟩]) (.cond (.l 0) .skip (.exit 2))) (.block 3 (.reg [⟨.mv (.v 5), .push, none, true, 0, none⟩,
    ⟨.bin .sub 3 false true (.l 0) (.k (.int .i64 1)), .push, none, false, 1, none⟩,
    ⟨.mv (.l 0), (.var 5), none, true, 2, none⟩]))))) (.seq (.seq (.reg [⟨.bin .gtr 3 false false (.v 4) (.v 5), .push, none, false, 2, none⟩]) (.cond (.l 0) (.seq (.dreg 0 [0, 0, 0, 0, 0, 0, 48, 112, 0, 0, 768, 1792, 4083, 8179, 16383, 32767] [⟨.indexAddr 102 (.v 0) (.v 1), .push, none, true, 6, none⟩,
    ⟨.load 104 (.l 0), .push, none, true, 7, none⟩,
    ⟨.indexAddr 102 (.v 0) (.v 5), .push, none, true, 10, none⟩,
    ⟨.load 104 (.l 0), .push, none, true, 11, none⟩,
    ⟨.indexAddr 102 (.v 0) (.v 5), .push, none, true, 12, none⟩,
    ⟨.store 104 (.l 0) (.l 3), .none, none, false, 13, none⟩,
    ⟨.indexAddr 102 (.v 0) (.v 1), .push, none, true, 14, none⟩,
    ⟨.store 104 (.l 0) (.l 2), .none, none, false, 15, none⟩]) (.seq (.reg [⟨.mv (.v 5), (.var 7), none, true, 1, none⟩,
    ⟨.mv (.k (.bool true)), (.var 8), none, true, 2, none⟩]) .ret)) .skip)) (.seq (.dreg 0 [0, 0, 0, 0, 0, 0, 48, 112, 0, 0, 768, 1792, 4083, 8179, 16383, 32767] [⟨.indexAddr 102 (.v 0) (.v 5), .push, none, true, 6, none⟩,
    ⟨.load 104 (.l 0), .push, none, true, 7, none⟩,
    ⟨.indexAddr 102 (.v 0) (.v 4), .push, none, true, 10, none⟩,
    ⟨.load 104 (.l 0), .push, none, true, 11, none⟩,
    ⟨.indexAddr 102 (.v 0) (.v 4), .push, none, true, 12, none⟩,
    ⟨.store 104 (.l 0) (.l 3), .none, none, false, 13, none⟩,
    ⟨.indexAddr 102 (.v 0) (.v 5), .push, none, true, 14, none⟩,
    ⟨.store 104 (.l 0) (.l 2), .none, none, false, 15, none⟩]) (.seq (.reg [⟨.mv (.v 4), .push, none, true, 0, none⟩,
    ⟨.bin .add 3 false true (.l 0) (.k (.int .i64 1)), .push, none, false, 1, none⟩,
    ⟨.mv (.l 0), (.var 4), none, true, 2, none⟩]) (.seq (.reg [⟨.mv (.v 5), .push, none, true, 0, none⟩,
    ⟨.bin .sub 3 false true (.l 0) (.k (.int .i64 1)), .push, none, false, 1, none⟩,
    ⟨.mv (.l 0), (.var 5), none, true, 2, none⟩]) (.seq (.block 4 (.loop (.block 5 (.seq (.block 6 (.loop (.seq (.seq (.dreg 1 [0, 0, 3, 7, 15, 15, 15, 111, 239, 15, 15, 1551, 3599, 8191, 16383, 32767] [⟨.bin .leq 3 false false (.v 4) (.v 5), .push, none, false, 2, none⟩,
    ⟨.mv (.v 6), .push, (some ((.l 0), true)), true, 4, none⟩,
    ⟨.mv (.v 0), .push, (some ((.l 1), true)), true, 5, none⟩,
    ⟨.mv (.v 4), .push, (some ((.l 2), true)), true, 6, none⟩,
    ⟨.indexAddr 102 (.l 1) (.l 0), .push, (some ((.l 3), true)), true, 7, none⟩,
    ⟨.load 104 (.l 0), .push, (some ((.l 4), true)), true, 8, none⟩,
    ⟨.mv (.v 0), .push, (some ((.l 5), true)), true, 9, none⟩,
    ⟨.mv (.v 1), .push, (some ((.l 6), true)), true, 10, none⟩,
    ⟨.indexAddr 102 (.l 1) (.l 0), .push, (some ((.l 7), true)), true, 11, none⟩,
    ⟨.load 104 (.l 0), .push, (some ((.l 8), true)), true, 12, none⟩,
    ⟨.callv (.l 8) [(.l 4), (.l 0)], .push, (some ((.l 9), true)), false, 13, (some 0)⟩,
    ⟨.bin .lss 3 false true (.l 0) (.k (.int .i64 0)), .push, (some ((.l 10), true)), false, 14, none⟩,
    ⟨.pick (.l 11) (.l 0) (.k (.bool false)), .push, none, true, 15, none⟩]) (.cond (.l 0) .skip (.exit 6))) (.block 7 (.reg [⟨.mv (.v 4), .push, none, true, 0, none⟩,
    ⟨.bin .add 3 false true (.l 0) (.k (.int .i64 1)), .push, none, false, 1, none⟩,
    ⟨.mv (.l 0), (.var 4), none, true, 2, none⟩]))))) (.seq (.block 8 (.loop (.seq (.seq (.dreg 1 [0, 0, 3, 7, 15, 15, 15, 111, 239, 15, 15, 1551, 3599, 8191, 16383, 32767, 65535] [⟨.bin .leq 3 false false (.v 4) (.v 5), .push, none, false, 2, none⟩,
    ⟨.mv (.v 6), .push, (some ((.l 0), true)), true, 4, none⟩,
    ⟨.mv (.v 0), .push, (some ((.l 1), true)), true, 5, none⟩,
    ⟨.mv (.v 5), .push, (some ((.l 2), true)), true, 6, none⟩,
    ⟨.indexAddr 102 (.l 1) (.l 0), .push, (some ((.l 3), true)), true, 7, none⟩,
    ⟨.load 104 (.l 0), .push, (some ((.l 4), true)), true, 8, none⟩,
    ⟨.mv (.v 0), .push, (some ((.l 5), true)), true, 9, none⟩,
    ⟨.mv (.v 1), .push, (some ((.l 6), true)), true, 10, none⟩,
    ⟨.indexAddr 102 (.l 1) (.l 0), .push, (some ((.l 7), true)), true, 11, none⟩,
    ⟨.load 104 (.l 0), .push, (some ((.l 8), true)), true, 12, none⟩,
    ⟨.callv (.l 8) [(.l 4), (.l 0)], .push, (some ((.l 9), true)), false, 13, (some 0)⟩,
    ⟨.bin .lss 3 false true (.l 0) (.k (.int .i64 0)), .push, (some ((.l 10), true)), false, 14, none⟩,
    ⟨.un .not (.l 0), .push, (some ((.l 11), true)), false, 15, none⟩,
    ⟨.pick (.l 12) (.l 0) (.k (.bool false)), .push, none, true, 16, none⟩]) (.cond (.l 0) .skip (.exit 8))) (.block 9 (.reg [⟨.mv (.v 5), .push, none, true, 0, none⟩,
    ⟨.bin .sub 3 false true (.l 0) (.k (.int .i64 1)), .push, none, false, 1, none⟩,
    ⟨.mv (.l 0), (.var 5), none, true, 2, none⟩]))))) (.seq (.seq (.reg [⟨.bin .gtr 3 false false (.v 4) (.v 5), .push, none, false, 2, none⟩]) (.cond (.l 0) (.exit 4) .skip)) (.seq (.dreg 0 [0, 0, 0, 0, 0, 0, 48, 112, 0, 0, 768, 1792, 4083, 8179, 16383, 32767] [⟨.indexAddr 102 (.v 0) (.v 5), .push, none, true, 6, none⟩,
    ⟨.load 104 (.l 0), .push, none, true, 7, none⟩,
    ⟨.indexAddr 102 (.v 0) (.v 4), .push, none, true, 10, none⟩,
    ⟨.load 104 (.l 0), .push, none, true, 11, none⟩,
    ⟨.indexAddr 102 (.v 0) (.v 4), .push, none, true, 12, none⟩,
    ⟨.store 104 (.l 0) (.l 3), .none, none, false, 13, none⟩,
    ⟨.indexAddr 102 (.v 0) (.v 5), .push, none, true, 14, none⟩,
    ⟨.store 104 (.l 0) (.l 2), .none, none, false, 15, none⟩]) (.seq (.reg [⟨.mv (.v 4), .push, none, true, 0, none⟩,
    ⟨.bin .add 3 false true (.l 0) (.k (.int .i64 1)), .push, none, false, 1, none⟩,
    ⟨.mv (.l 0), (.var 4), none, true, 2, none⟩]) (.reg [⟨.mv (.v 5), .push, none, true, 0, none⟩,
    ⟨.bin .sub 3 false true (.l 0) (.k (.int .i64 1)), .push, none, false, 1, none⟩,
    ⟨.mv (.l 0), (.var 5), none, true, 2, none⟩]))))))))) (.seq (.dreg 0 [0, 0, 0, 0, 0, 0, 48, 112, 0, 0, 768, 1792, 4083, 8179, 16383, 32767] [⟨.indexAddr 102 (.v 0) (.v 1), .push, none, true, 6, none⟩,
    ⟨.load 104 (.l 0), .push, none, true, 7, none⟩,
    ⟨.indexAddr 102 (.v 0) (.v 5), .push, none, true, 10, none⟩,
    ⟨.load 104 (.l 0), .push, none, true, 11, none⟩,
    ⟨.indexAddr 102 (.v 0) (.v 5), .push, none, true, 12, none⟩,
    ⟨.store 104 (.l 0) (.l 3), .none, none, false, 13, none⟩,
    ⟨.indexAddr 102 (.v 0) (.v 1), .push, none, true, 14, none⟩,
    ⟨.store 104 (.l 0) (.l 2), .none, none, false, 15, none⟩]) (.seq (.reg [⟨.mv (.v 5), (.var 7), none, true, 1, none⟩,
    ⟨.mv (.k (.bool false)), (.var 8), none, true, 2, none⟩]) .ret)))))))))))), [.tmp (.v 7), .tmp (.v 8)]⟩
noncomputable def G108 (E : Env) : ZFn := ⟨178, [0, 1, 3, 2, 12, 13, 4, 10, 11], fun cy Y fuel =>
  (zSeq (zReg fun k => (zDst (.var 7) (vMv (.k (.int .i64 0)))) ((zDst (.var 8) (vMv (.k (.bool false)))) k))
  (zSeq (zDreg 0 fun n0 k => (fun k sp => zDst .push (vIndexAddr 2 (.v 0) (.v 2)) (k sp)) ((zDstWD [0, 0, 0, 0, 0, 0, 48, 112, 0, 0, 768, 1792, 4083, 8179, 16383, 32767] 7 .push (wLoad 2 true (.l 0))) ((fun k sp => zDst .push (vIndexAddr 2 (.v 0) (.v 1)) (k sp)) ((zDstWD [0, 0, 0, 0, 0, 0, 48, 112, 0, 0, 768, 1792, 4083, 8179, 16383, 32767] 11 .push (wLoad 2 true (.l 0))) ((fun k sp => zDst .push (vIndexAddr 2 (.v 0) (.v 1)) (k sp)) ((zStepD E (cy Y) [0, 0, 0, 0, 0, 0, 48, 112, 0, 0, 768, 1792, 4083, 8179, 16383, 32767] n0 ⟨.store 104 (.l 0) (.l 3), .none, none, false, 13, none⟩) ((fun k sp => zDst .push (vIndexAddr 2 (.v 0) (.v 2)) (k sp)) ((zStepD E (cy Y) [0, 0, 0, 0, 0, 0, 48, 112, 0, 0, 768, 1792, 4083, 8179, 16383, 32767] n0 ⟨.store 104 (.l 0) (.l 2), .none, none, false, 15, none⟩) k))))))))
  (zSeq (zReg fun k => (zDst .push (vInt E fAdd .add 3 false true (.v 1) (.k (.int .i64 1)))) ((zDst .push (vInt E fSub .sub 3 false true (.v 3) (.k (.int .i64 1)))) ((zDst (.var 4) (vMv (.l 1))) ((zDst (.var 5) (vMv (.l 0))) k))))
  (zSeq (zBlock 0 (zLoop fuel (zSeq (zSeq (zDreg 1 fun n0 k => (fun k sp => zDst .push (vInt E (fGen .leq) .leq 3 false false (.v 4) (.v 5)) (k sp)) ((zGD (.l 0) true .push (fun k sp => zDst .push (vMv (.v 6)) (k sp))) ((zGD (.l 1) true .push (fun k sp => zDst .push (vMv (.v 0)) (k sp))) ((zGD (.l 2) true .push (fun k sp => zDst .push (vMv (.v 4)) (k sp))) ((zGD (.l 3) true .push (fun k sp => zDst .push (vIndexAddr 2 (.l 1) (.l 0)) (k sp))) ((zGD (.l 4) true .push (zDstWD [0, 0, 3, 7, 15, 15, 15, 111, 239, 15, 15, 1551, 3599, 8191, 16383, 32767] 8 .push (wLoad 2 true (.l 0)))) ((zGD (.l 5) true .push (fun k sp => zDst .push (vMv (.v 0)) (k sp))) ((zGD (.l 6) true .push (fun k sp => zDst .push (vMv (.v 1)) (k sp))) ((zGD (.l 7) true .push (fun k sp => zDst .push (vIndexAddr 2 (.l 1) (.l 0)) (k sp))) ((zGD (.l 8) true .push (zDstWD [0, 0, 3, 7, 15, 15, 15, 111, 239, 15, 15, 1551, 3599, 8191, 16383, 32767] 12 .push (wLoad 2 true (.l 0)))) ((zGD (.l 9) true .push (zStepD E (cy Y) [0, 0, 3, 7, 15, 15, 15, 111, 239, 15, 15, 1551, 3599, 8191, 16383, 32767] n0 ⟨.callv (.l 8) [(.l 4), (.l 0)], .push, none, false, 13, (some 0)⟩)) ((zGD (.l 10) true .push (fun k sp => zDst .push (vInt E fLss .lss 3 false true (.l 0) (.k (.int .i64 0))) (k sp))) ((fun k sp => zDst .push (vPick (.l 11) (.l 0) (.k (.bool false))) (k sp)) k)))))))))))))
  (zCond (.l 0) zSkip (zExit 0)))
  (zBlock 1 (zReg fun k => (zDst .push (vMv (.v 4))) ((zDst .push (vInt E fAdd .add 3 false true (.l 0) (.k (.int .i64 1)))) ((zDst (.var 4) (vMv (.l 0))) k)))))))
  (zSeq (zBlock 2 (zLoop fuel (zSeq (zSeq (zDreg 1 fun n0 k => (fun k sp => zDst .push (vInt E (fGen .leq) .leq 3 false false (.v 4) (.v 5)) (k sp)) ((zGD (.l 0) true .push (fun k sp => zDst .push (vMv (.v 6)) (k sp))) ((zGD (.l 1) true .push (fun k sp => zDst .push (vMv (.v 0)) (k sp))) ((zGD (.l 2) true .push (fun k sp => zDst .push (vMv (.v 5)) (k sp))) ((zGD (.l 3) true .push (fun k sp => zDst .push (vIndexAddr 2 (.l 1) (.l 0)) (k sp))) ((zGD (.l 4) true .push (zDstWD [0, 0, 3, 7, 15, 15, 15, 111, 239, 15, 15, 1551, 3599, 8191, 16383, 32767, 65535] 8 .push (wLoad 2 true (.l 0)))) ((zGD (.l 5) true .push (fun k sp => zDst .push (vMv (.v 0)) (k sp))) ((zGD (.l 6) true .push (fun k sp => zDst .push (vMv (.v 1)) (k sp))) ((zGD (.l 7) true .push (fun k sp => zDst .push (vIndexAddr 2 (.l 1) (.l 0)) (k sp))) ((zGD (.l 8) true .push (zDstWD [0, 0, 3, 7, 15, 15, 15, 111, 239, 15, 15, 1551, 3599, 8191, 16383, 32767, 65535] 12 .push (wLoad 2 true (.l 0)))) ((zGD (.l 9) true .push (zStepD E (cy Y) [0, 0, 3, 7, 15, 15, 15, 111, 239, 15, 15, 1551, 3599, 8191, 16383, 32767, 65535] n0 ⟨.callv (.l 8) [(.l 4), (.l 0)], .push, none, false, 13, (some 0)⟩)) ((zGD (.l 10) true .push (fun k sp => zDst .push (vInt E fLss .lss 3 false true (.l 0) (.k (.int .i64 0))) (k sp))) ((zGD (.l 11) true .push (fun k sp => zDst .push (vNot (.l 0)) (k sp))) ((fun k sp => zDst .push (vPick (.l 12) (.l 0) (.k (.bool false))) (k sp)) k))))))))))))))
  (zCond (.l 0) zSkip (zExit 2)))
  (zBlock 3 (zReg fun k => (zDst .push (vMv (.v 5))) ((zDst .push (vInt E fSub .sub 3 false true (.l 0) (.k (.int .i64 1)))) ((zDst (.var 5) (vMv (.l 0))) k)))))))
  (zSeq (zSeq (zReg fun k => (zDst .push (vInt E fGtr .gtr 3 false false (.v 4) (.v 5))) k)
  (zCond (.l 0) (zSeq (zDreg 0 fun n0 k => (fun k sp => zDst .push (vIndexAddr 2 (.v 0) (.v 1)) (k sp)) ((zDstWD [0, 0, 0, 0, 0, 0, 48, 112, 0, 0, 768, 1792, 4083, 8179, 16383, 32767] 7 .push (wLoad 2 true (.l 0))) ((fun k sp => zDst .push (vIndexAddr 2 (.v 0) (.v 5)) (k sp)) ((zDstWD [0, 0, 0, 0, 0, 0, 48, 112, 0, 0, 768, 1792, 4083, 8179, 16383, 32767] 11 .push (wLoad 2 true (.l 0))) ((fun k sp => zDst .push (vIndexAddr 2 (.v 0) (.v 5)) (k sp)) ((zStepD E (cy Y) [0, 0, 0, 0, 0, 0, 48, 112, 0, 0, 768, 1792, 4083, 8179, 16383, 32767] n0 ⟨.store 104 (.l 0) (.l 3), .none, none, false, 13, none⟩) ((fun k sp => zDst .push (vIndexAddr 2 (.v 0) (.v 1)) (k sp)) ((zStepD E (cy Y) [0, 0, 0, 0, 0, 0, 48, 112, 0, 0, 768, 1792, 4083, 8179, 16383, 32767] n0 ⟨.store 104 (.l 0) (.l 2), .none, none, false, 15, none⟩) k))))))))
  (zSeq (zReg fun k => (zDst (.var 7) (vMv (.v 5))) ((zDst (.var 8) (vMv (.k (.bool true)))) k))
  zRet)) zSkip))
  (zSeq (zDreg 0 fun n0 k => (fun k sp => zDst .push (vIndexAddr 2 (.v 0) (.v 5)) (k sp)) ((zDstWD [0, 0, 0, 0, 0, 0, 48, 112, 0, 0, 768, 1792, 4083, 8179, 16383, 32767] 7 .push (wLoad 2 true (.l 0))) ((fun k sp => zDst .push (vIndexAddr 2 (.v 0) (.v 4)) (k sp)) ((zDstWD [0, 0, 0, 0, 0, 0, 48, 112, 0, 0, 768, 1792, 4083, 8179, 16383, 32767] 11 .push (wLoad 2 true (.l 0))) ((fun k sp => zDst .push (vIndexAddr 2 (.v 0) (.v 4)) (k sp)) ((zStepD E (cy Y) [0, 0, 0, 0, 0, 0, 48, 112, 0, 0, 768, 1792, 4083, 8179, 16383, 32767] n0 ⟨.store 104 (.l 0) (.l 3), .none, none, false, 13, none⟩) ((fun k sp => zDst .push (vIndexAddr 2 (.v 0) (.v 5)) (k sp)) ((zStepD E (cy Y) [0, 0, 0, 0, 0, 0, 48, 112, 0, 0, 768, 1792, 4083, 8179, 16383, 32767] n0 ⟨.store 104 (.l 0) (.l 2), .none, none, false, 15, none⟩) k))))))))
  (zSeq (zReg fun k => (zDst .push (vMv (.v 4))) ((zDst .push (vInt E fAdd .add 3 false true (.l 0) (.k (.int .i64 1)))) ((zDst (.var 4) (vMv (.l 0))) k)))
  (zSeq (zReg fun k => (zDst .push (vMv (.v 5))) ((zDst .push (vInt E fSub .sub 3 false true (.l 0) (.k (.int .i64 1)))) ((zDst (.var 5) (vMv (.l 0))) k)))
  (zSeq (zBlock 4 (zLoop fuel (zBlock 5 (zSeq (zBlock 6 (zLoop fuel (zSeq (zSeq (zDreg 1 fun n0 k => (fun k sp => zDst .push (vInt E (fGen .leq) .leq 3 false false (.v 4) (.v 5)) (k sp)) ((zGD (.l 0) true .push (fun k sp => zDst .push (vMv (.v 6)) (k sp))) ((zGD (.l 1) true .push (fun k sp => zDst .push (vMv (.v 0)) (k sp))) ((zGD (.l 2) true .push (fun k sp => zDst .push (vMv (.v 4)) (k sp))) ((zGD (.l 3) true .push (fun k sp => zDst .push (vIndexAddr 2 (.l 1) (.l 0)) (k sp))) ((zGD (.l 4) true .push (zDstWD [0, 0, 3, 7, 15, 15, 15, 111, 239, 15, 15, 1551, 3599, 8191, 16383, 32767] 8 .push (wLoad 2 true (.l 0)))) ((zGD (.l 5) true .push (fun k sp => zDst .push (vMv (.v 0)) (k sp))) ((zGD (.l 6) true .push (fun k sp => zDst .push (vMv (.v 1)) (k sp))) ((zGD (.l 7) true .push (fun k sp => zDst .push (vIndexAddr 2 (.l 1) (.l 0)) (k sp))) ((zGD (.l 8) true .push (zDstWD [0, 0, 3, 7, 15, 15, 15, 111, 239, 15, 15, 1551, 3599, 8191, 16383, 32767] 12 .push (wLoad 2 true (.l 0)))) ((zGD (.l 9) true .push (zStepD E (cy Y) [0, 0, 3, 7, 15, 15, 15, 111, 239, 15, 15, 1551, 3599, 8191, 16383, 32767] n0 ⟨.callv (.l 8) [(.l 4), (.l 0)], .push, none, false, 13, (some 0)⟩)) ((zGD (.l 10) true .push (fun k sp => zDst .push (vInt E fLss .lss 3 false true (.l 0) (.k (.int .i64 0))) (k sp))) ((fun k sp => zDst .push (vPick (.l 11) (.l 0) (.k (.bool false))) (k sp)) k)))))))))))))
  (zCond (.l 0) zSkip (zExit 6)))
  (zBlock 7 (zReg fun k => (zDst .push (vMv (.v 4))) ((zDst .push (vInt E fAdd .add 3 false true (.l 0) (.k (.int .i64 1)))) ((zDst (.var 4) (vMv (.l 0))) k)))))))
  (zSeq (zBlock 8 (zLoop fuel (zSeq (zSeq (zDreg 1 fun n0 k => (fun k sp => zDst .push (vInt E (fGen .leq) .leq 3 false false (.v 4) (.v 5)) (k sp)) ((zGD (.l 0) true .push (fun k sp => zDst .push (vMv (.v 6)) (k sp))) ((zGD (.l 1) true .push (fun k sp => zDst .push (vMv (.v 0)) (k sp))) ((zGD (.l 2) true .push (fun k sp => zDst .push (vMv (.v 5)) (k sp))) ((zGD (.l 3) true .push (fun k sp => zDst .push (vIndexAddr 2 (.l 1) (.l 0)) (k sp))) ((zGD (.l 4) true .push (zDstWD [0, 0, 3, 7, 15, 15, 15, 111, 239, 15, 15, 1551, 3599, 8191, 16383, 32767, 65535] 8 .push (wLoad 2 true (.l 0)))) ((zGD (.l 5) true .push (fun k sp => zDst .push (vMv (.v 0)) (k sp))) ((zGD (.l 6) true .push (fun k sp => zDst .push (vMv (.v 1)) (k sp))) ((zGD (.l 7) true .push (fun k sp => zDst .push (vIndexAddr 2 (.l 1) (.l 0)) (k sp))) ((zGD (.l 8) true .push (zDstWD [0, 0, 3, 7, 15, 15, 15, 111, 239, 15, 15, 1551, 3599, 8191, 16383, 32767, 65535] 12 .push (wLoad 2 true (.l 0)))) ((zGD (.l 9) true .push (zStepD E (cy Y) [0, 0, 3, 7, 15, 15, 15, 111, 239, 15, 15, 1551, 3599, 8191, 16383, 32767, 65535] n0 ⟨.callv (.l 8) [(.l 4), (.l 0)], .push, none, false, 13, (some 0)⟩)) ((zGD (.l 10) true .push (fun k sp => zDst .push (vInt E fLss .lss 3 false true (.l 0) (.k (.int .i64 0))) (k sp))) ((zGD (.l 11) true .push (fun k sp => zDst .push (vNot (.l 0)) (k sp))) ((fun k sp => zDst .push (vPick (.l 12) (.l 0) (.k (.bool false))) (k sp)) k))))))))))))))
  (zCond (.l 0) zSkip (zExit 8)))
  (zBlock 9 (zReg fun k => (zDst .push (vMv (.v 5))) ((zDst .push (vInt E fSub .sub 3 false true (.l 0) (.k (.int .i64 1)))) ((zDst (.var 5) (vMv (.l 0))) k)))))))
  (zSeq (zSeq (zReg fun k => (zDst .push (vInt E fGtr .gtr 3 false false (.v 4) (.v 5))) k)
  (zCond (.l 0) (zExit 4) zSkip))
  (zSeq (zDreg 0 fun n0 k => (fun k sp => zDst .push (vIndexAddr 2 (.v 0) (.v 5)) (k sp)) ((zDstWD [0, 0, 0, 0, 0, 0, 48, 112, 0, 0, 768, 1792, 4083, 8179, 16383, 32767] 7 .push (wLoad 2 true (.l 0))) ((fun k sp => zDst .push (vIndexAddr 2 (.v 0) (.v 4)) (k sp)) ((zDstWD [0, 0, 0, 0, 0, 0, 48, 112, 0, 0, 768, 1792, 4083, 8179, 16383, 32767] 11 .push (wLoad 2 true (.l 0))) ((fun k sp => zDst .push (vIndexAddr 2 (.v 0) (.v 4)) (k sp)) ((zStepD E (cy Y) [0, 0, 0, 0, 0, 0, 48, 112, 0, 0, 768, 1792, 4083, 8179, 16383, 32767] n0 ⟨.store 104 (.l 0) (.l 3), .none, none, false, 13, none⟩) ((fun k sp => zDst .push (vIndexAddr 2 (.v 0) (.v 5)) (k sp)) ((zStepD E (cy Y) [0, 0, 0, 0, 0, 0, 48, 112, 0, 0, 768, 1792, 4083, 8179, 16383, 32767] n0 ⟨.store 104 (.l 0) (.l 2), .none, none, false, 15, none⟩) k))))))))
  (zSeq (zReg fun k => (zDst .push (vMv (.v 4))) ((zDst .push (vInt E fAdd .add 3 false true (.l 0) (.k (.int .i64 1)))) ((zDst (.var 4) (vMv (.l 0))) k)))
  (zReg fun k => (zDst .push (vMv (.v 5))) ((zDst .push (vInt E fSub .sub 3 false true (.l 0) (.k (.int .i64 1)))) ((zDst (.var 5) (vMv (.l 0))) k)))))))))))
  (zSeq (zDreg 0 fun n0 k => (fun k sp => zDst .push (vIndexAddr 2 (.v 0) (.v 1)) (k sp)) ((zDstWD [0, 0, 0, 0, 0, 0, 48, 112, 0, 0, 768, 1792, 4083, 8179, 16383, 32767] 7 .push (wLoad 2 true (.l 0))) ((fun k sp => zDst .push (vIndexAddr 2 (.v 0) (.v 5)) (k sp)) ((zDstWD [0, 0, 0, 0, 0, 0, 48, 112, 0, 0, 768, 1792, 4083, 8179, 16383, 32767] 11 .push (wLoad 2 true (.l 0))) ((fun k sp => zDst .push (vIndexAddr 2 (.v 0) (.v 5)) (k sp)) ((zStepD E (cy Y) [0, 0, 0, 0, 0, 0, 48, 112, 0, 0, 768, 1792, 4083, 8179, 16383, 32767] n0 ⟨.store 104 (.l 0) (.l 3), .none, none, false, 13, none⟩) ((fun k sp => zDst .push (vIndexAddr 2 (.v 0) (.v 1)) (k sp)) ((zStepD E (cy Y) [0, 0, 0, 0, 0, 0, 48, 112, 0, 0, 768, 1792, 4083, 8179, 16383, 32767] n0 ⟨.store 104 (.l 0) (.l 2), .none, none, false, 15, none⟩) k))))))))
  (zSeq (zReg fun k => (zDst (.var 7) (vMv (.v 5))) ((zDst (.var 8) (vMv (.k (.bool false)))) k))
  zRet)))))))))))), [.tmp (.v 7), .tmp (.v 8)]⟩
theorem G108_ok (fn : Nat → Option Func) (pu : Nat → Bool) (pr : Nat → List AV → Option (Heap → Option (Eff × Acc))) : ZOk ⟨Try.tyT, fn, pu, pr⟩ npT F108 (G108 ⟨Try.tyT, fn, pu, pr⟩) := ⟨rfl, rfl, rfl, fun cy Y k => by kernel_rfl⟩
noncomputable def F109 : FFn := ⟨19, [0, 2], (.seq (.reg [⟨.mv (.k (.int .i64 0)), (.var 1), none, true, 0, none⟩]) (.seq (.seq (.reg [⟨.bin .geq 121 false true (.v 0) (.k (.int .u32 65536)), .push, none, false, 1, none⟩]) (.cond (.l 0) (.seq (.reg [⟨.mv (.v 0), .push, none, true, 0, none⟩,
    ⟨.bin .shr 121 false true (.l 0) (.k (.int .u64 16)), .push, none, false, 1, none⟩,
    ⟨.mv (.l 0), (.var 0), none, true, 2, none⟩]) (.reg [⟨.mv (.k (.int .i64 16)), (.var 1), none, true, 0, none⟩])) .skip)) (.seq (.seq (.reg [⟨.bin .geq 121 false true (.v 0) (.k (.int .u32 256)), .push, none, false, 1, none⟩]) (.cond (.l 0) (.seq (.reg [⟨.mv (.v 0), .push, none, true, 0, none⟩,
    ⟨.bin .shr 121 false true (.l 0) (.k (.int .u64 8)), .push, none, false, 1, none⟩,
    ⟨.mv (.l 0), (.var 0), none, true, 2, none⟩]) (.reg [⟨.mv (.v 1), .push, none, true, 0, none⟩,
    ⟨.bin .add 3 false true (.l 0) (.k (.int .i64 8)), .push, none, false, 1, none⟩,
    ⟨.mv (.l 0), (.var 1), none, true, 2, none⟩])) .skip)) (.seq (.reg [⟨.mv (.v 1), .push, none, true, 0, none⟩,
    ⟨.conv 121 5 (.v 0), .push, none, false, 2, none⟩,
    ⟨.index 9 (.k (.str [0, 1, 2, 2, 3, 3, 3, 3, 4, 4, 4, 4, 4, 4, 4, 4, 5, 5, 5, 5, 5, 5, 5, 5, 5, 5, 5, 5, 5, 5, 5, 5, 6, 6, 6, 6, 6, 6, 6, 6, 6, 6, 6, 6, 6, 6, 6, 6, 6, 6, 6, 6, 6, 6, 6, 6, 6, 6, 6, 6, 6, 6, 6, 6, 7, 7, 7, 7, 7, 7, 7, 7, 7, 7, 7, 7, 7, 7, 7, 7, 7, 7, 7, 7, 7, 7, 7, 7, 7, 7, 7, 7, 7, 7, 7, 7, 7, 7, 7, 7, 7, 7, 7, 7, 7, 7, 7, 7, 7, 7, 7, 7, 7, 7, 7, 7, 7, 7, 7, 7, 7, 7, 7, 7, 7, 7, 7, 7, 8, 8, 8, 8, 8, 8, 8, 8, 8, 8, 8, 8, 8, 8, 8, 8, 8, 8, 8, 8, 8, 8, 8, 8, 8, 8, 8, 8, 8, 8, 8, 8, 8, 8, 8, 8, 8, 8, 8, 8, 8, 8, 8, 8, 8, 8, 8, 8, 8, 8, 8, 8, 8, 8, 8, 8, 8, 8, 8, 8, 8, 8, 8, 8, 8, 8, 8, 8, 8, 8, 8, 8, 8, 8, 8, 8, 8, 8, 8, 8, 8, 8, 8, 8, 8, 8, 8, 8, 8, 8, 8, 8, 8, 8, 8, 8, 8, 8, 8, 8, 8, 8, 8, 8, 8, 8, 8, 8, 8, 8, 8, 8, 8, 8, 8, 8, 8, 8, 8, 8, 8, 8, 8, 8, 8, 8, 8, 8])) (.l 0), .push, none, false, 3, none⟩,
    ⟨.conv 5 3 (.l 0), .push, none, false, 4, none⟩,
    ⟨.bin .add 3 false false (.l 3) (.l 0), .push, none, false, 5, none⟩,
    ⟨.mv (.l 0), (.var 1), none, true, 6, none⟩]) .ret)))), [.tmp (.v 1)]⟩
noncomputable def G109 (E : Env) : ZFn := ⟨19, [0, 2], fun cy Y fuel =>
  (zSeq (zReg fun k => (zDst (.var 1) (vMv (.k (.int .i64 0)))) k)
  (zSeq (zSeq (zReg fun k => (zDst .push (vInt E (fGen .geq) .geq 121 false true (.v 0) (.k (.int .u32 65536)))) k)
  (zCond (.l 0) (zSeq (zReg fun k => (zDst .push (vMv (.v 0))) ((zDst .push (vBin E .shr 121 false true (.l 0) (.k (.int .u64 16)))) ((zDst (.var 0) (vMv (.l 0))) k)))
  (zReg fun k => (zDst (.var 1) (vMv (.k (.int .i64 16)))) k)) zSkip))
  (zSeq (zSeq (zReg fun k => (zDst .push (vInt E (fGen .geq) .geq 121 false true (.v 0) (.k (.int .u32 256)))) k)
  (zCond (.l 0) (zSeq (zReg fun k => (zDst .push (vMv (.v 0))) ((zDst .push (vBin E .shr 121 false true (.l 0) (.k (.int .u64 8)))) ((zDst (.var 0) (vMv (.l 0))) k)))
  (zReg fun k => (zDst .push (vMv (.v 1))) ((zDst .push (vInt E fAdd .add 3 false true (.l 0) (.k (.int .i64 8)))) ((zDst (.var 1) (vMv (.l 0))) k)))) zSkip))
  (zSeq (zReg fun k => (zDst .push (vMv (.v 1))) ((zDst .push (vConv .u8 (.v 0))) ((zStep E (cy Y) ⟨.index 9 (.k (.str [0, 1, 2, 2, 3, 3, 3, 3, 4, 4, 4, 4, 4, 4, 4, 4, 5, 5, 5, 5, 5, 5, 5, 5, 5, 5, 5, 5, 5, 5, 5, 5, 6, 6, 6, 6, 6, 6, 6, 6, 6, 6, 6, 6, 6, 6, 6, 6, 6, 6, 6, 6, 6, 6, 6, 6, 6, 6, 6, 6, 6, 6, 6, 6, 7, 7, 7, 7, 7, 7, 7, 7, 7, 7, 7, 7, 7, 7, 7, 7, 7, 7, 7, 7, 7, 7, 7, 7, 7, 7, 7, 7, 7, 7, 7, 7, 7, 7, 7, 7, 7, 7, 7, 7, 7, 7, 7, 7, 7, 7, 7, 7, 7, 7, 7, 7, 7, 7, 7, 7, 7, 7, 7, 7, 7, 7, 7, 7, 8, 8, 8, 8, 8, 8, 8, 8, 8, 8, 8, 8, 8, 8, 8, 8, 8, 8, 8, 8, 8, 8, 8, 8, 8, 8, 8, 8, 8, 8, 8, 8, 8, 8, 8, 8, 8, 8, 8, 8, 8, 8, 8, 8, 8, 8, 8, 8, 8, 8, 8, 8, 8, 8, 8, 8, 8, 8, 8, 8, 8, 8, 8, 8, 8, 8, 8, 8, 8, 8, 8, 8, 8, 8, 8, 8, 8, 8, 8, 8, 8, 8, 8, 8, 8, 8, 8, 8, 8, 8, 8, 8, 8, 8, 8, 8, 8, 8, 8, 8, 8, 8, 8, 8, 8, 8, 8, 8, 8, 8, 8, 8, 8, 8, 8, 8, 8, 8, 8, 8, 8, 8, 8, 8, 8, 8, 8, 8])) (.l 0), .push, none, false, 3, none⟩) ((zDst .push (vConv .i64 (.l 0))) ((zDst .push (vInt E fAdd .add 3 false false (.l 3) (.l 0))) ((zDst (.var 1) (vMv (.l 0))) k))))))
  zRet)))), [.tmp (.v 1)]⟩
theorem G109_ok (fn : Nat → Option Func) (pu : Nat → Bool) (pr : Nat → List AV → Option (Heap → Option (Eff × Acc))) : ZOk ⟨Try.tyT, fn, pu, pr⟩ npT F109 (G109 ⟨Try.tyT, fn, pu, pr⟩) := ⟨rfl, rfl, rfl, fun cy Y k => by kernel_rfl⟩
noncomputable def F110 : FFn := ⟨25, [0, 2], (.seq (.reg [⟨.mv (.k (.int .i64 0)), (.var 1), none, true, 0, none⟩]) (.seq (.seq (.reg [⟨.bin .geq 42 false true (.v 0) (.k (.int .u64 4294967296)), .push, none, false, 1, none⟩]) (.cond (.l 0) (.seq (.reg [⟨.mv (.v 0), .push, none, true, 0, none⟩,
    ⟨.bin .shr 42 false true (.l 0) (.k (.int .u64 32)), .push, none, false, 1, none⟩,
    ⟨.mv (.l 0), (.var 0), none, true, 2, none⟩]) (.reg [⟨.mv (.k (.int .i64 32)), (.var 1), none, true, 0, none⟩])) .skip)) (.seq (.seq (.reg [⟨.bin .geq 42 false true (.v 0) (.k (.int .u64 65536)), .push, none, false, 1, none⟩]) (.cond (.l 0) (.seq (.reg [⟨.mv (.v 0), .push, none, true, 0, none⟩,
    ⟨.bin .shr 42 false true (.l 0) (.k (.int .u64 16)), .push, none, false, 1, none⟩,
    ⟨.mv (.l 0), (.var 0), none, true, 2, none⟩]) (.reg [⟨.mv (.v 1), .push, none, true, 0, none⟩,
    ⟨.bin .add 3 false true (.l 0) (.k (.int .i64 16)), .push, none, false, 1, none⟩,
    ⟨.mv (.l 0), (.var 1), none, true, 2, none⟩])) .skip)) (.seq (.seq (.reg [⟨.bin .geq 42 false true (.v 0) (.k (.int .u64 256)), .push, none, false, 1, none⟩]) (.cond (.l 0) (.seq (.reg [⟨.mv (.v 0), .push, none, true, 0, none⟩,
    ⟨.bin .shr 42 false true (.l 0) (.k (.int .u64 8)), .push, none, false, 1, none⟩,
    ⟨.mv (.l 0), (.var 0), none, true, 2, none⟩]) (.reg [⟨.mv (.v 1), .push, none, true, 0, none⟩,
    ⟨.bin .add 3 false true (.l 0) (.k (.int .i64 8)), .push, none, false, 1, none⟩,
    ⟨.mv (.l 0), (.var 1), none, true, 2, none⟩])) .skip)) (.seq (.reg [⟨.mv (.v 1), .push, none, true, 0, none⟩,
    ⟨.conv 42 5 (.v 0), .push, none, false, 2, none⟩,
    ⟨.index 9 (.k (.str [0, 1, 2, 2, 3, 3, 3, 3, 4, 4, 4, 4, 4, 4, 4, 4, 5, 5, 5, 5, 5, 5, 5, 5, 5, 5, 5, 5, 5, 5, 5, 5, 6, 6, 6, 6, 6, 6, 6, 6, 6, 6, 6, 6, 6, 6, 6, 6, 6, 6, 6, 6, 6, 6, 6, 6, 6, 6, 6, 6, 6, 6, 6, 6, 7, 7, 7, 7, 7, 7, 7, 7, 7, 7, 7, 7, 7, 7, 7, 7, 7, 7, 7, 7, 7, 7, 7, 7, 7, 7, 7, 7, 7, 7, 7, 7, 7, 7, 7, 7, 7, 7, 7, 7, 7, 7, 7, 7, 7, 7, 7, 7, 7, 7, 7, 7, 7, 7, 7, 7, 7, 7, 7, 7, 7, 7, 7, 7, 8, 8, 8, 8, 8, 8, 8, 8, 8, 8, 8, 8, 8, 8, 8, 8, 8, 8, 8, 8, 8, 8, 8, 8, 8, 8, 8, 8, 8, 8, 8, 8, 8, 8, 8, 8, 8, 8, 8, 8, 8, 8, 8, 8, 8, 8, 8, 8, 8, 8, 8, 8, 8, 8, 8, 8, 8, 8, 8, 8, 8, 8, 8, 8, 8, 8, 8, 8, 8, 8, 8, 8, 8, 8, 8, 8, 8, 8, 8, 8, 8, 8, 8, 8, 8, 8, 8, 8, 8, 8, 8, 8, 8, 8, 8, 8, 8, 8, 8, 8, 8, 8, 8, 8, 8, 8, 8, 8, 8, 8, 8, 8, 8, 8, 8, 8, 8, 8, 8, 8, 8, 8, 8, 8, 8, 8, 8, 8])) (.l 0), .push, none, false, 3, none⟩,
    ⟨.conv 5 3 (.l 0), .push, none, false, 4, none⟩,
    ⟨.bin .add 3 false false (.l 3) (.l 0), .push, none, false, 5, none⟩,
    ⟨.mv (.l 0), (.var 1), none, true, 6, none⟩]) .ret))))), [.tmp (.v 1)]⟩
noncomputable def G110 (E : Env) : ZFn := ⟨25, [0, 2], fun cy Y fuel =>
  (zSeq (zReg fun k => (zDst (.var 1) (vMv (.k (.int .i64 0)))) k)
  (zSeq (zSeq (zReg fun k => (zDst .push (vInt E (fGen .geq) .geq 42 false true (.v 0) (.k (.int .u64 4294967296)))) k)
  (zCond (.l 0) (zSeq (zReg fun k => (zDst .push (vMv (.v 0))) ((zDst .push (vBin E .shr 42 false true (.l 0) (.k (.int .u64 32)))) ((zDst (.var 0) (vMv (.l 0))) k)))
  (zReg fun k => (zDst (.var 1) (vMv (.k (.int .i64 32)))) k)) zSkip))
  (zSeq (zSeq (zReg fun k => (zDst .push (vInt E (fGen .geq) .geq 42 false true (.v 0) (.k (.int .u64 65536)))) k)
  (zCond (.l 0) (zSeq (zReg fun k => (zDst .push (vMv (.v 0))) ((zDst .push (vBin E .shr 42 false true (.l 0) (.k (.int .u64 16)))) ((zDst (.var 0) (vMv (.l 0))) k)))
  (zReg fun k => (zDst .push (vMv (.v 1))) ((zDst .push (vInt E fAdd .add 3 false true (.l 0) (.k (.int .i64 16)))) ((zDst (.var 1) (vMv (.l 0))) k)))) zSkip))
  (zSeq (zSeq (zReg fun k => (zDst .push (vInt E (fGen .geq) .geq 42 false true (.v 0) (.k (.int .u64 256)))) k)
  (zCond (.l 0) (zSeq (zReg fun k => (zDst .push (vMv (.v 0))) ((zDst .push (vBin E .shr 42 false true (.l 0) (.k (.int .u64 8)))) ((zDst (.var 0) (vMv (.l 0))) k)))
  (zReg fun k => (zDst .push (vMv (.v 1))) ((zDst .push (vInt E fAdd .add 3 false true (.l 0) (.k (.int .i64 8)))) ((zDst (.var 1) (vMv (.l 0))) k)))) zSkip))
  (zSeq (zReg fun k => (zDst .push (vMv (.v 1))) ((zDst .push (vConv .u8 (.v 0))) ((zStep E (cy Y) ⟨.index 9 (.k (.str [0, 1, 2, 2, 3, 3, 3, 3, 4, 4, 4, 4, 4, 4, 4, 4, 5, 5, 5, 5, 5, 5, 5, 5, 5, 5, 5, 5, 5, 5, 5, 5, 6, 6, 6, 6, 6, 6, 6, 6, 6, 6, 6, 6, 6, 6, 6, 6, 6, 6, 6, 6, 6, 6, 6, 6, 6, 6, 6, 6, 6, 6, 6, 6, 7, 7, 7, 7, 7, 7, 7, 7, 7, 7, 7, 7, 7, 7, 7, 7, 7, 7, 7, 7, 7, 7, 7, 7, 7, 7, 7, 7, 7, 7, 7, 7, 7, 7, 7, 7, 7, 7, 7, 7, 7, 7, 7, 7, 7, 7, 7, 7, 7, 7, 7, 7, 7, 7, 7, 7, 7, 7, 7, 7, 7, 7, 7, 7, 8, 8, 8, 8, 8, 8, 8, 8, 8, 8, 8, 8, 8, 8, 8, 8, 8, 8, 8, 8, 8, 8, 8, 8, 8, 8, 8, 8, 8, 8, 8, 8, 8, 8, 8, 8, 8, 8, 8, 8, 8, 8, 8, 8, 8, 8, 8, 8, 8, 8, 8, 8, 8, 8, 8, 8, 8, 8, 8, 8, 8, 8, 8, 8, 8, 8, 8, 8, 8, 8, 8, 8, 8, 8, 8, 8, 8, 8, 8, 8, 8, 8, 8, 8, 8, 8, 8, 8, 8, 8, 8, 8, 8, 8, 8, 8, 8, 8, 8, 8, 8, 8, 8, 8, 8, 8, 8, 8, 8, 8, 8, 8, 8, 8, 8, 8, 8, 8, 8, 8, 8, 8, 8, 8, 8, 8, 8, 8])) (.l 0), .push, none, false, 3, none⟩) ((zDst .push (vConv .i64 (.l 0))) ((zDst .push (vInt E fAdd .add 3 false false (.l 3) (.l 0))) ((zDst (.var 1) (vMv (.l 0))) k))))))
  zRet))))), [.tmp (.v 1)]⟩
theorem G110_ok (fn : Nat → Option Func) (pu : Nat → Bool) (pr : Nat → List AV → Option (Heap → Option (Eff × Acc))) : ZOk ⟨Try.tyT, fn, pu, pr⟩ npT F110 (G110 ⟨Try.tyT, fn, pu, pr⟩) := ⟨rfl, rfl, rfl, fun cy Y k => by kernel_rfl⟩
noncomputable def F111 : FFn := ⟨28, [0, 2, 3], (.seq (.reg [⟨.len 23 (.v 0), .push, none, false, 1, none⟩,
    ⟨.bin .sub 3 false true (.l 0) (.k (.int .i64 1)), .push, none, false, 2, none⟩,
    ⟨.mv (.k (.int .i64 0)), (.var 1), none, true, 3, none⟩,
    ⟨.mv (.l 0), (.var 2), none, true, 4, none⟩]) (.block 0 (.loop (.seq (.seq (.reg [⟨.bin .lss 3 false false (.v 1) (.v 2), .push, none, false, 2, none⟩]) (.cond (.l 0) .skip (.exit 0))) (.seq (.block 1 (.dreg 0 [0, 0, 0, 0, 0, 0, 48, 112, 0, 0, 768, 1792, 4083, 8179, 16383, 32767] [⟨.indexAddr 23 (.v 0) (.v 2), .push, none, true, 6, none⟩,
    ⟨.load 60 (.l 0), .push, none, true, 7, none⟩,
    ⟨.indexAddr 23 (.v 0) (.v 1), .push, none, true, 10, none⟩,
    ⟨.load 60 (.l 0), .push, none, true, 11, none⟩,
    ⟨.indexAddr 23 (.v 0) (.v 1), .push, none, true, 12, none⟩,
    ⟨.store 60 (.l 0) (.l 3), .none, none, false, 13, none⟩,
    ⟨.indexAddr 23 (.v 0) (.v 2), .push, none, true, 14, none⟩,
    ⟨.store 60 (.l 0) (.l 2), .none, none, false, 15, none⟩])) (.reg [⟨.mv (.v 1), .push, none, true, 0, none⟩,
    ⟨.bin .add 3 false true (.l 0) (.k (.int .i64 1)), .push, none, false, 1, none⟩,
    ⟨.mv (.v 2), .push, none, true, 2, none⟩,
    ⟨.bin .sub 3 false true (.l 0) (.k (.int .i64 1)), .push, none, false, 3, none⟩,
    ⟨.mv (.l 2), (.var 1), none, true, 4, none⟩,
    ⟨.mv (.l 0), (.var 2), none, true, 5, none⟩])))))), []⟩
noncomputable def G111 (E : Env) : ZFn := ⟨28, [0, 2, 3], fun cy Y fuel =>
  (zSeq (zReg fun k => (zDst .push (vLenL (.v 0))) ((zDst .push (vInt E fSub .sub 3 false true (.l 0) (.k (.int .i64 1)))) ((zDst (.var 1) (vMv (.k (.int .i64 0)))) ((zDst (.var 2) (vMv (.l 0))) k))))
  (zBlock 0 (zLoop fuel (zSeq (zSeq (zReg fun k => (zDst .push (vInt E fLss .lss 3 false false (.v 1) (.v 2))) k)
  (zCond (.l 0) zSkip (zExit 0)))
  (zSeq (zBlock 1 (zDreg 0 fun n0 k => (fun k sp => zDst .push (vIndexAddr 3 (.v 0) (.v 2)) (k sp)) ((zDstWD [0, 0, 0, 0, 0, 0, 48, 112, 0, 0, 768, 1792, 4083, 8179, 16383, 32767] 7 .push (wLoad 3 true (.l 0))) ((fun k sp => zDst .push (vIndexAddr 3 (.v 0) (.v 1)) (k sp)) ((zDstWD [0, 0, 0, 0, 0, 0, 48, 112, 0, 0, 768, 1792, 4083, 8179, 16383, 32767] 11 .push (wLoad 3 true (.l 0))) ((fun k sp => zDst .push (vIndexAddr 3 (.v 0) (.v 1)) (k sp)) ((zStepD E (cy Y) [0, 0, 0, 0, 0, 0, 48, 112, 0, 0, 768, 1792, 4083, 8179, 16383, 32767] n0 ⟨.store 60 (.l 0) (.l 3), .none, none, false, 13, none⟩) ((fun k sp => zDst .push (vIndexAddr 3 (.v 0) (.v 2)) (k sp)) ((zStepD E (cy Y) [0, 0, 0, 0, 0, 0, 48, 112, 0, 0, 768, 1792, 4083, 8179, 16383, 32767] n0 ⟨.store 60 (.l 0) (.l 2), .none, none, false, 15, none⟩) k)))))))))
  (zReg fun k => (zDst .push (vMv (.v 1))) ((zDst .push (vInt E fAdd .add 3 false true (.l 0) (.k (.int .i64 1)))) ((zDst .push (vMv (.v 2))) ((zDst .push (vInt E fSub .sub 3 false true (.l 0) (.k (.int .i64 1)))) ((zDst (.var 1) (vMv (.l 2))) ((zDst (.var 2) (vMv (.l 0))) k))))))))))), []⟩
theorem G111_ok (fn : Nat → Option Func) (pu : Nat → Bool) (pr : Nat → List AV → Option (Heap → Option (Eff × Acc))) : ZOk ⟨Try.tyT, fn, pu, pr⟩ npT F111 (G111 ⟨Try.tyT, fn, pu, pr⟩) := ⟨rfl, rfl, rfl, fun cy Y k => by kernel_rfl⟩
noncomputable def F112 : FFn := ⟨28, [0, 2, 3], (.seq (.reg [⟨.len 22 (.v 0), .push, none, false, 1, none⟩,
    ⟨.bin .sub 3 false true (.l 0) (.k (.int .i64 1)), .push, none, false, 2, none⟩,
    ⟨.mv (.k (.int .i64 0)), (.var 1), none, true, 3, none⟩,
    ⟨.mv (.l 0), (.var 2), none, true, 4, none⟩]) (.block 0 (.loop (.seq (.seq (.reg [⟨.bin .lss 3 false false (.v 1) (.v 2), .push, none, false, 2, none⟩]) (.cond (.l 0) .skip (.exit 0))) (.seq (.block 1 (.dreg 0 [0, 0, 0, 0, 0, 0, 48, 112, 0, 0, 768, 1792, 4083, 8179, 16383, 32767] [⟨.indexAddr 22 (.v 0) (.v 2), .push, none, true, 6, none⟩,
    ⟨.load 56 (.l 0), .push, none, true, 7, none⟩,
    ⟨.indexAddr 22 (.v 0) (.v 1), .push, none, true, 10, none⟩,
    ⟨.load 56 (.l 0), .push, none, true, 11, none⟩,
    ⟨.indexAddr 22 (.v 0) (.v 1), .push, none, true, 12, none⟩,
    ⟨.store 56 (.l 0) (.l 3), .none, none, false, 13, none⟩,
    ⟨.indexAddr 22 (.v 0) (.v 2), .push, none, true, 14, none⟩,
    ⟨.store 56 (.l 0) (.l 2), .none, none, false, 15, none⟩])) (.reg [⟨.mv (.v 1), .push, none, true, 0, none⟩,
    ⟨.bin .add 3 false true (.l 0) (.k (.int .i64 1)), .push, none, false, 1, none⟩,
    ⟨.mv (.v 2), .push, none, true, 2, none⟩,
    ⟨.bin .sub 3 false true (.l 0) (.k (.int .i64 1)), .push, none, false, 3, none⟩,
    ⟨.mv (.l 2), (.var 1), none, true, 4, none⟩,
    ⟨.mv (.l 0), (.var 2), none, true, 5, none⟩])))))), []⟩
noncomputable def G112 (E : Env) : ZFn := ⟨28, [0, 2, 3], fun cy Y fuel =>
  (zSeq (zReg fun k => (zDst .push (vLenL (.v 0))) ((zDst .push (vInt E fSub .sub 3 false true (.l 0) (.k (.int .i64 1)))) ((zDst (.var 1) (vMv (.k (.int .i64 0)))) ((zDst (.var 2) (vMv (.l 0))) k))))
  (zBlock 0 (zLoop fuel (zSeq (zSeq (zReg fun k => (zDst .push (vInt E fLss .lss 3 false false (.v 1) (.v 2))) k)
  (zCond (.l 0) zSkip (zExit 0)))
  (zSeq (zBlock 1 (zDreg 0 fun n0 k => (fun k sp => zDst .push (vIndexAddr 2 (.v 0) (.v 2)) (k sp)) ((zDstWD [0, 0, 0, 0, 0, 0, 48, 112, 0, 0, 768, 1792, 4083, 8179, 16383, 32767] 7 .push (wLoad 2 true (.l 0))) ((fun k sp => zDst .push (vIndexAddr 2 (.v 0) (.v 1)) (k sp)) ((zDstWD [0, 0, 0, 0, 0, 0, 48, 112, 0, 0, 768, 1792, 4083, 8179, 16383, 32767] 11 .push (wLoad 2 true (.l 0))) ((fun k sp => zDst .push (vIndexAddr 2 (.v 0) (.v 1)) (k sp)) ((zStepD E (cy Y) [0, 0, 0, 0, 0, 0, 48, 112, 0, 0, 768, 1792, 4083, 8179, 16383, 32767] n0 ⟨.store 56 (.l 0) (.l 3), .none, none, false, 13, none⟩) ((fun k sp => zDst .push (vIndexAddr 2 (.v 0) (.v 2)) (k sp)) ((zStepD E (cy Y) [0, 0, 0, 0, 0, 0, 48, 112, 0, 0, 768, 1792, 4083, 8179, 16383, 32767] n0 ⟨.store 56 (.l 0) (.l 2), .none, none, false, 15, none⟩) k)))))))))
  (zReg fun k => (zDst .push (vMv (.v 1))) ((zDst .push (vInt E fAdd .add 3 false true (.l 0) (.k (.int .i64 1)))) ((zDst .push (vMv (.v 2))) ((zDst .push (vInt E fSub .sub 3 false true (.l 0) (.k (.int .i64 1)))) ((zDst (.var 1) (vMv (.l 2))) ((zDst (.var 2) (vMv (.l 0))) k))))))))))), []⟩
theorem G112_ok (fn : Nat → Option Func) (pu : Nat → Bool) (pr : Nat → List AV → Option (Heap → Option (Eff × Acc))) : ZOk ⟨Try.tyT, fn, pu, pr⟩ npT F112 (G112 ⟨Try.tyT, fn, pu, pr⟩) := ⟨rfl, rfl, rfl, fun cy Y k => by kernel_rfl⟩
noncomputable def F113 : FFn := ⟨82, [1, 10, 11, 2, 4, 0, 3], (.seq (.reg [⟨.mv (.v 0), (.var 1), none, true, 1, none⟩]) (.block 0 (.loop (.block 1 (.seq (.reg [⟨.bin .mul 3 true false (.k (.int .i64 2)) (.v 1), .push, none, false, 1, none⟩,
    ⟨.bin .add 3 false true (.l 0) (.k (.int .i64 1)), .push, none, false, 2, none⟩,
    ⟨.mv (.l 0), (.var 2), none, true, 3, none⟩]) (.seq (.seq (.reg [⟨.bin .geq 3 false false (.v 2) (.v 3), .push, none, false, 2, none⟩]) (.cond (.l 0) (.exit 0) .skip)) (.seq (.seq (.dreg 1 [0, 1, 0, 7, 15, 31, 31, 31, 31, 415, 991, 2015, 31, 31, 31, 24607, 57375, 127007, 258079, 524287, 1048575, 2097151] [⟨.bin .add 3 false true (.v 2) (.k (.int .i64 1)), .push, none, false, 1, none⟩,
    ⟨.bin .lss 3 false false (.l 0) (.v 3), .push, none, false, 3, none⟩,
    ⟨.mv (.v 4), .push, (some ((.l 0), true)), true, 5, none⟩,
    ⟨.mv (.v 5), .push, (some ((.l 1), true)), true, 6, none⟩,
    ⟨.mv (.v 6), .push, (some ((.l 2), true)), true, 7, none⟩,
    ⟨.mv (.v 2), .push, (some ((.l 3), true)), true, 8, none⟩,
    ⟨.bin .add 3 false false (.l 1) (.l 0), .push, (some ((.l 4), true)), false, 9, none⟩,
    ⟨.indexAddr 102 (.l 3) (.l 0), .push, (some ((.l 5), true)), true, 10, none⟩,
    ⟨.load 104 (.l 0), .push, (some ((.l 6), true)), true, 11, none⟩,
    ⟨.mv (.v 5), .push, (some ((.l 7), true)), true, 12, none⟩,
    ⟨.mv (.v 6), .push, (some ((.l 8), true)), true, 13, none⟩,
    ⟨.mv (.v 2), .push, (some ((.l 9), true)), true, 14, none⟩,
    ⟨.bin .add 3 false false (.l 1) (.l 0), .push, (some ((.l 10), true)), false, 15, none⟩,
    ⟨.bin .add 3 false true (.l 0) (.k (.int .i64 1)), .push, (some ((.l 11), true)), false, 16, none⟩,
    ⟨.indexAddr 102 (.l 4) (.l 0), .push, (some ((.l 12), true)), true, 17, none⟩,
    ⟨.load 104 (.l 0), .push, (some ((.l 13), true)), true, 18, none⟩,
    ⟨.callv (.l 13) [(.l 7), (.l 0)], .push, (some ((.l 14), true)), false, 19, (some 0)⟩,
    ⟨.bin .lss 3 false true (.l 0) (.k (.int .i64 0)), .push, (some ((.l 15), true)), false, 20, none⟩,
    ⟨.pick (.l 16) (.l 0) (.k (.bool false)), .push, none, true, 21, none⟩]) (.cond (.l 0) (.reg [⟨.mv (.v 2), .push, none, true, 0, none⟩,
    ⟨.bin .add 3 false true (.l 0) (.k (.int .i64 1)), .push, none, false, 1, none⟩,
    ⟨.mv (.l 0), (.var 2), none, true, 2, none⟩]) .skip)) (.seq (.seq (.dreg 1 [0, 0, 0, 0, 12, 30, 62, 0, 0, 0, 768, 1920, 3968, 8191, 16383, 32767] [⟨.bin .add 3 false false (.v 6) (.v 1), .push, none, false, 4, none⟩,
    ⟨.indexAddr 102 (.v 5) (.l 0), .push, none, true, 5, none⟩,
    ⟨.load 104 (.l 0), .push, none, true, 6, none⟩,
    ⟨.bin .add 3 false false (.v 6) (.v 2), .push, none, false, 10, none⟩,
    ⟨.indexAddr 102 (.v 5) (.l 0), .push, none, true, 11, none⟩,
    ⟨.load 104 (.l 0), .push, none, true, 12, none⟩,
    ⟨.callv (.v 4) [(.l 3), (.l 0)], .push, none, false, 13, (some 0)⟩,
    ⟨.bin .lss 3 false true (.l 0) (.k (.int .i64 0)), .push, none, false, 14, none⟩,
    ⟨.un .not (.l 0), .push, none, false, 15, none⟩]) (.cond (.l 0) .ret .skip)) (.seq (.dreg 0 [0, 0, 0, 6, 0, 0, 0, 96, 0, 0, 0, 1536, 3840, 7936, 0, 0, 0, 98304, 245760, 507904, 1048335, 2096911, 4194303, 8388607] [⟨.bin .add 3 false false (.v 6) (.v 1), .push, none, false, 3, none⟩,
    ⟨.bin .add 3 false false (.v 6) (.v 2), .push, none, false, 7, none⟩,
    ⟨.bin .add 3 false false (.v 6) (.v 2), .push, none, false, 11, none⟩,
    ⟨.indexAddr 102 (.v 5) (.l 0), .push, none, true, 12, none⟩,
    ⟨.load 104 (.l 0), .push, none, true, 13, none⟩,
    ⟨.bin .add 3 false false (.v 6) (.v 1), .push, none, false, 17, none⟩,
    ⟨.indexAddr 102 (.v 5) (.l 0), .push, none, true, 18, none⟩,
    ⟨.load 104 (.l 0), .push, none, true, 19, none⟩,
    ⟨.indexAddr 102 (.v 5) (.l 7), .push, none, true, 20, none⟩,
    ⟨.store 104 (.l 0) (.l 4), .none, none, false, 21, none⟩,
    ⟨.indexAddr 102 (.v 5) (.l 7), .push, none, true, 22, none⟩,
    ⟨.store 104 (.l 0) (.l 2), .none, none, false, 23, none⟩]) (.reg [⟨.mv (.v 2), (.var 1), none, true, 1, none⟩])))))))))), []⟩
noncomputable def G113 (E : Env) : ZFn := ⟨82, [1, 10, 11, 2, 4, 0, 3], fun cy Y fuel =>
  (zSeq (zReg fun k => (zDst (.var 1) (vMv (.v 0))) k)
  (zBlock 0 (zLoop fuel (zBlock 1 (zSeq (zReg fun k => (zDst .push (vInt E (fGen .mul) .mul 3 true false (.k (.int .i64 2)) (.v 1))) ((zDst .push (vInt E fAdd .add 3 false true (.l 0) (.k (.int .i64 1)))) ((zDst (.var 2) (vMv (.l 0))) k)))
  (zSeq (zSeq (zReg fun k => (zDst .push (vInt E (fGen .geq) .geq 3 false false (.v 2) (.v 3))) k)
  (zCond (.l 0) (zExit 0) zSkip))
  (zSeq (zSeq (zDreg 1 fun n0 k => (fun k sp => zDst .push (vInt E fAdd .add 3 false true (.v 2) (.k (.int .i64 1))) (k sp)) ((fun k sp => zDst .push (vInt E fLss .lss 3 false false (.l 0) (.v 3)) (k sp)) ((zGD (.l 0) true .push (fun k sp => zDst .push (vMv (.v 4)) (k sp))) ((zGD (.l 1) true .push (fun k sp => zDst .push (vMv (.v 5)) (k sp))) ((zGD (.l 2) true .push (fun k sp => zDst .push (vMv (.v 6)) (k sp))) ((zGD (.l 3) true .push (fun k sp => zDst .push (vMv (.v 2)) (k sp))) ((zGD (.l 4) true .push (fun k sp => zDst .push (vInt E fAdd .add 3 false false (.l 1) (.l 0)) (k sp))) ((zGD (.l 5) true .push (fun k sp => zDst .push (vIndexAddr 2 (.l 3) (.l 0)) (k sp))) ((zGD (.l 6) true .push (zDstWD [0, 1, 0, 7, 15, 31, 31, 31, 31, 415, 991, 2015, 31, 31, 31, 24607, 57375, 127007, 258079, 524287, 1048575, 2097151] 11 .push (wLoad 2 true (.l 0)))) ((zGD (.l 7) true .push (fun k sp => zDst .push (vMv (.v 5)) (k sp))) ((zGD (.l 8) true .push (fun k sp => zDst .push (vMv (.v 6)) (k sp))) ((zGD (.l 9) true .push (fun k sp => zDst .push (vMv (.v 2)) (k sp))) ((zGD (.l 10) true .push (fun k sp => zDst .push (vInt E fAdd .add 3 false false (.l 1) (.l 0)) (k sp))) ((zGD (.l 11) true .push (fun k sp => zDst .push (vInt E fAdd .add 3 false true (.l 0) (.k (.int .i64 1))) (k sp))) ((zGD (.l 12) true .push (fun k sp => zDst .push (vIndexAddr 2 (.l 4) (.l 0)) (k sp))) ((zGD (.l 13) true .push (zDstWD [0, 1, 0, 7, 15, 31, 31, 31, 31, 415, 991, 2015, 31, 31, 31, 24607, 57375, 127007, 258079, 524287, 1048575, 2097151] 18 .push (wLoad 2 true (.l 0)))) ((zGD (.l 14) true .push (zStepD E (cy Y) [0, 1, 0, 7, 15, 31, 31, 31, 31, 415, 991, 2015, 31, 31, 31, 24607, 57375, 127007, 258079, 524287, 1048575, 2097151] n0 ⟨.callv (.l 13) [(.l 7), (.l 0)], .push, none, false, 19, (some 0)⟩)) ((zGD (.l 15) true .push (fun k sp => zDst .push (vInt E fLss .lss 3 false true (.l 0) (.k (.int .i64 0))) (k sp))) ((fun k sp => zDst .push (vPick (.l 16) (.l 0) (.k (.bool false))) (k sp)) k)))))))))))))))))))
  (zCond (.l 0) (zReg fun k => (zDst .push (vMv (.v 2))) ((zDst .push (vInt E fAdd .add 3 false true (.l 0) (.k (.int .i64 1)))) ((zDst (.var 2) (vMv (.l 0))) k))) zSkip))
  (zSeq (zSeq (zDreg 1 fun n0 k => (fun k sp => zDst .push (vInt E fAdd .add 3 false false (.v 6) (.v 1)) (k sp)) ((fun k sp => zDst .push (vIndexAddr 2 (.v 5) (.l 0)) (k sp)) ((zDstWD [0, 0, 0, 0, 12, 30, 62, 0, 0, 0, 768, 1920, 3968, 8191, 16383, 32767] 6 .push (wLoad 2 true (.l 0))) ((fun k sp => zDst .push (vInt E fAdd .add 3 false false (.v 6) (.v 2)) (k sp)) ((fun k sp => zDst .push (vIndexAddr 2 (.v 5) (.l 0)) (k sp)) ((zDstWD [0, 0, 0, 0, 12, 30, 62, 0, 0, 0, 768, 1920, 3968, 8191, 16383, 32767] 12 .push (wLoad 2 true (.l 0))) ((zStepD E (cy Y) [0, 0, 0, 0, 12, 30, 62, 0, 0, 0, 768, 1920, 3968, 8191, 16383, 32767] n0 ⟨.callv (.v 4) [(.l 3), (.l 0)], .push, none, false, 13, (some 0)⟩) ((fun k sp => zDst .push (vInt E fLss .lss 3 false true (.l 0) (.k (.int .i64 0))) (k sp)) ((fun k sp => zDst .push (vNot (.l 0)) (k sp)) k)))))))))
  (zCond (.l 0) zRet zSkip))
  (zSeq (zDreg 0 fun n0 k => (fun k sp => zDst .push (vInt E fAdd .add 3 false false (.v 6) (.v 1)) (k sp)) ((fun k sp => zDst .push (vInt E fAdd .add 3 false false (.v 6) (.v 2)) (k sp)) ((fun k sp => zDst .push (vInt E fAdd .add 3 false false (.v 6) (.v 2)) (k sp)) ((fun k sp => zDst .push (vIndexAddr 2 (.v 5) (.l 0)) (k sp)) ((zDstWD [0, 0, 0, 6, 0, 0, 0, 96, 0, 0, 0, 1536, 3840, 7936, 0, 0, 0, 98304, 245760, 507904, 1048335, 2096911, 4194303, 8388607] 13 .push (wLoad 2 true (.l 0))) ((fun k sp => zDst .push (vInt E fAdd .add 3 false false (.v 6) (.v 1)) (k sp)) ((fun k sp => zDst .push (vIndexAddr 2 (.v 5) (.l 0)) (k sp)) ((zDstWD [0, 0, 0, 6, 0, 0, 0, 96, 0, 0, 0, 1536, 3840, 7936, 0, 0, 0, 98304, 245760, 507904, 1048335, 2096911, 4194303, 8388607] 19 .push (wLoad 2 true (.l 0))) ((fun k sp => zDst .push (vIndexAddr 2 (.v 5) (.l 7)) (k sp)) ((zStepD E (cy Y) [0, 0, 0, 6, 0, 0, 0, 96, 0, 0, 0, 1536, 3840, 7936, 0, 0, 0, 98304, 245760, 507904, 1048335, 2096911, 4194303, 8388607] n0 ⟨.store 104 (.l 0) (.l 4), .none, none, false, 21, none⟩) ((fun k sp => zDst .push (vIndexAddr 2 (.v 5) (.l 7)) (k sp)) ((zStepD E (cy Y) [0, 0, 0, 6, 0, 0, 0, 96, 0, 0, 0, 1536, 3840, 7936, 0, 0, 0, 98304, 245760, 507904, 1048335, 2096911, 4194303, 8388607] n0 ⟨.store 104 (.l 0) (.l 2), .none, none, false, 23, none⟩) k))))))))))))
  (zReg fun k => (zDst (.var 1) (vMv (.v 2))) k)))))))))), []⟩
theorem G113_ok (fn : Nat → Option Func) (pu : Nat → Bool) (pr : Nat → List AV → Option (Heap → Option (Eff × Acc))) : ZOk ⟨Try.tyT, fn, pu, pr⟩ npT F113 (G113 ⟨Try.tyT, fn, pu, pr⟩) := ⟨rfl, rfl, rfl, fun cy Y k => by kernel_rfl⟩
noncomputable def F114 : FFn := ⟨7, [0, 2], (.seq (.reg [⟨.mv (.k (.int .u64 0)), (.var 1), none, true, 0, none⟩]) (.seq (.reg [⟨.conv 3 48 (.v 0), .push, none, false, 1, none⟩,
    ⟨.call 97 [(.l 0)], .push, none, false, 2, (some 0)⟩,
    ⟨.bin .shl 48 true false (.k (.int .u64 1)) (.l 0), .push, none, false, 3, none⟩,
    ⟨.mv (.l 0), (.var 1), none, true, 4, none⟩]) .ret)), [.tmp (.v 1)]⟩
noncomputable def G114 (E : Env) : ZFn := ⟨7, [0, 2], fun cy Y fuel =>
  (zSeq (zReg fun k => (zDst (.var 1) (vMv (.k (.int .u64 0)))) k)
  (zSeq (zReg fun k => (zDst .push (vConv .u64 (.v 0))) ((zCall (cy Y) 97 [(.l 0)] .push) ((zDst .push (vBin E .shl 48 true false (.k (.int .u64 1)) (.l 0))) ((zDst (.var 1) (vMv (.l 0))) k))))
  zRet)), [.tmp (.v 1)]⟩
theorem G114_ok (fn : Nat → Option Func) (pu : Nat → Bool) (pr : Nat → List AV → Option (Heap → Option (Eff × Acc))) : ZOk ⟨Try.tyT, fn, pu, pr⟩ npT F114 (G114 ⟨Try.tyT, fn, pu, pr⟩) := ⟨rfl, rfl, rfl, fun cy Y k => by kernel_rfl⟩
noncomputable def F115 : FFn := ⟨33, [0, 2], (.seq (.reg [⟨.mv (.k (.int .u64 0)), (.var 1), none, true, 0, none⟩]) (.seq (.dreg 0 [0, 1, 3, 0, 8, 24, 56, 127, 255, 511] [⟨.nilCheck (.v 0), .push, none, true, 1, none⟩,
    ⟨.load 125 (.l 0), .push, none, true, 2, none⟩,
    ⟨.nilCheck (.v 0), .push, none, true, 4, none⟩,
    ⟨.load 125 (.l 0), .push, none, true, 5, none⟩,
    ⟨.bin .shl 125 false true (.l 0) (.k (.int .u64 13)), .push, none, false, 6, none⟩,
    ⟨.bin .xor 125 false false (.l 3) (.l 0), .push, none, false, 7, none⟩,
    ⟨.nilCheck (.v 0), .push, none, true, 8, none⟩,
    ⟨.store 125 (.l 0) (.l 1), .none, none, false, 9, none⟩]) (.seq (.dreg 0 [0, 1, 3, 0, 8, 24, 56, 127, 255, 511] [⟨.nilCheck (.v 0), .push, none, true, 1, none⟩,
    ⟨.load 125 (.l 0), .push, none, true, 2, none⟩,
    ⟨.nilCheck (.v 0), .push, none, true, 4, none⟩,
    ⟨.load 125 (.l 0), .push, none, true, 5, none⟩,
    ⟨.bin .shr 125 false true (.l 0) (.k (.int .u64 7)), .push, none, false, 6, none⟩,
    ⟨.bin .xor 125 false false (.l 3) (.l 0), .push, none, false, 7, none⟩,
    ⟨.nilCheck (.v 0), .push, none, true, 8, none⟩,
    ⟨.store 125 (.l 0) (.l 1), .none, none, false, 9, none⟩]) (.seq (.dreg 0 [0, 1, 3, 0, 8, 24, 56, 127, 255, 511] [⟨.nilCheck (.v 0), .push, none, true, 1, none⟩,
    ⟨.load 125 (.l 0), .push, none, true, 2, none⟩,
    ⟨.nilCheck (.v 0), .push, none, true, 4, none⟩,
    ⟨.load 125 (.l 0), .push, none, true, 5, none⟩,
    ⟨.bin .shl 125 false true (.l 0) (.k (.int .u64 17)), .push, none, false, 6, none⟩,
    ⟨.bin .xor 125 false false (.l 3) (.l 0), .push, none, false, 7, none⟩,
    ⟨.nilCheck (.v 0), .push, none, true, 8, none⟩,
    ⟨.store 125 (.l 0) (.l 1), .none, none, false, 9, none⟩]) (.seq (.reg [⟨.nilCheck (.v 0), .push, none, true, 1, none⟩,
    ⟨.load 125 (.l 0), .push, none, true, 2, none⟩,
    ⟨.mv (.l 0), (.var 1), none, true, 3, none⟩]) .ret))))), [.tmp (.v 1)]⟩
noncomputable def G115 (E : Env) : ZFn := ⟨33, [0, 2], fun cy Y fuel =>
  (zSeq (zReg fun k => (zDst (.var 1) (vMv (.k (.int .u64 0)))) k)
  (zSeq (zDreg 0 fun n0 k => (fun k sp => zDst .push (vNilCheck (.v 0)) (k sp)) ((zDstWD [0, 1, 3, 0, 8, 24, 56, 127, 255, 511] 2 .push (wLoad 1 false (.l 0))) ((fun k sp => zDst .push (vNilCheck (.v 0)) (k sp)) ((zDstWD [0, 1, 3, 0, 8, 24, 56, 127, 255, 511] 5 .push (wLoad 1 false (.l 0))) ((fun k sp => zDst .push (vBin E .shl 125 false true (.l 0) (.k (.int .u64 13))) (k sp)) ((fun k sp => zDst .push (vInt E (fGen .xor) .xor 125 false false (.l 3) (.l 0)) (k sp)) ((fun k sp => zDst .push (vNilCheck (.v 0)) (k sp)) ((zStepD E (cy Y) [0, 1, 3, 0, 8, 24, 56, 127, 255, 511] n0 ⟨.store 125 (.l 0) (.l 1), .none, none, false, 9, none⟩) k))))))))
  (zSeq (zDreg 0 fun n0 k => (fun k sp => zDst .push (vNilCheck (.v 0)) (k sp)) ((zDstWD [0, 1, 3, 0, 8, 24, 56, 127, 255, 511] 2 .push (wLoad 1 false (.l 0))) ((fun k sp => zDst .push (vNilCheck (.v 0)) (k sp)) ((zDstWD [0, 1, 3, 0, 8, 24, 56, 127, 255, 511] 5 .push (wLoad 1 false (.l 0))) ((fun k sp => zDst .push (vBin E .shr 125 false true (.l 0) (.k (.int .u64 7))) (k sp)) ((fun k sp => zDst .push (vInt E (fGen .xor) .xor 125 false false (.l 3) (.l 0)) (k sp)) ((fun k sp => zDst .push (vNilCheck (.v 0)) (k sp)) ((zStepD E (cy Y) [0, 1, 3, 0, 8, 24, 56, 127, 255, 511] n0 ⟨.store 125 (.l 0) (.l 1), .none, none, false, 9, none⟩) k))))))))
  (zSeq (zDreg 0 fun n0 k => (fun k sp => zDst .push (vNilCheck (.v 0)) (k sp)) ((zDstWD [0, 1, 3, 0, 8, 24, 56, 127, 255, 511] 2 .push (wLoad 1 false (.l 0))) ((fun k sp => zDst .push (vNilCheck (.v 0)) (k sp)) ((zDstWD [0, 1, 3, 0, 8, 24, 56, 127, 255, 511] 5 .push (wLoad 1 false (.l 0))) ((fun k sp => zDst .push (vBin E .shl 125 false true (.l 0) (.k (.int .u64 17))) (k sp)) ((fun k sp => zDst .push (vInt E (fGen .xor) .xor 125 false false (.l 3) (.l 0)) (k sp)) ((fun k sp => zDst .push (vNilCheck (.v 0)) (k sp)) ((zStepD E (cy Y) [0, 1, 3, 0, 8, 24, 56, 127, 255, 511] n0 ⟨.store 125 (.l 0) (.l 1), .none, none, false, 9, none⟩) k))))))))
  (zSeq (zReg fun k => (zDst .push (vNilCheck (.v 0))) ((zDstW .push (wLoad 1 false (.l 0))) ((zDst (.var 1) (vMv (.l 0))) k)))
  zRet))))), [.tmp (.v 1)]⟩
theorem G115_ok (fn : Nat → Option Func) (pu : Nat → Bool) (pr : Nat → List AV → Option (Heap → Option (Eff × Acc))) : ZOk ⟨Try.tyT, fn, pu, pr⟩ npT F115 (G115 ⟨Try.tyT, fn, pu, pr⟩) := ⟨rfl, rfl, rfl, fun cy Y k => by kernel_rfl⟩
noncomputable def F116 : FFn := ⟨18, [0, 1, 2, 3, 8], (.seq (.reg [⟨.mv (.k (.int .i64 0)), (.var 4), none, true, 0, none⟩]) (.seq (.reg [⟨.bin .sub 3 false true (.v 1) (.k (.int .i64 1)), .push, none, false, 2, none⟩,
    ⟨.bin .add 3 false true (.v 1) (.k (.int .i64 1)), .push, none, false, 5, none⟩,
    ⟨.call 117 [(.v 0), (.l 1), (.v 1), (.l 0), (.v 2), (.v 3)], .push, none, false, 8, (some 0)⟩,
    ⟨.mv (.l 0), (.var 4), none, true, 9, none⟩]) .ret)), [.tmp (.v 4)]⟩
noncomputable def G116 (E : Env) : ZFn := ⟨18, [0, 1, 2, 3, 8], fun cy Y fuel =>
  (zSeq (zReg fun k => (zDst (.var 4) (vMv (.k (.int .i64 0)))) k)
  (zSeq (zReg fun k => (zDst .push (vInt E fSub .sub 3 false true (.v 1) (.k (.int .i64 1)))) ((zDst .push (vInt E fAdd .add 3 false true (.v 1) (.k (.int .i64 1)))) ((zCall (cy Y) 117 [(.v 0), (.l 1), (.v 1), (.l 0), (.v 2), (.v 3)] .push) ((zDst (.var 4) (vMv (.l 0))) k))))
  zRet)), [.tmp (.v 4)]⟩
theorem G116_ok (fn : Nat → Option Func) (pu : Nat → Bool) (pr : Nat → List AV → Option (Heap → Option (Eff × Acc))) : ZOk ⟨Try.tyT, fn, pu, pr⟩ npT F116 (G116 ⟨Try.tyT, fn, pu, pr⟩) := ⟨rfl, rfl, rfl, fun cy Y k => by kernel_rfl⟩
noncomputable def F117 : FFn := ⟨41, [0, 1, 2, 4, 5, 3, 12], (.seq (.reg [⟨.mv (.k (.int .i64 0)), (.var 6), none, true, 0, none⟩]) (.seq (.reg [⟨.mv (.v 1), .push, none, true, 1, none⟩,
    ⟨.mv (.v 2), .push, none, true, 2, none⟩,
    ⟨.call 118 [(.v 0), (.l 1), (.l 0), (.v 3), (.v 4)], .push, none, false, 5, (some 0)⟩,
    ⟨.extract (.l 0) 0, .push, none, true, 7, none⟩,
    ⟨.extract (.l 1) 1, .push, none, true, 8, none⟩,
    ⟨.mv (.l 1), (.var 1), none, true, 9, none⟩,
    ⟨.mv (.l 0), (.var 2), none, true, 10, none⟩]) (.seq (.reg [⟨.mv (.v 2), .push, none, true, 1, none⟩,
    ⟨.mv (.v 5), .push, none, true, 2, none⟩,
    ⟨.call 118 [(.v 0), (.l 1), (.l 0), (.v 3), (.v 4)], .push, none, false, 5, (some 0)⟩,
    ⟨.extract (.l 0) 0, .push, none, true, 7, none⟩,
    ⟨.extract (.l 1) 1, .push, none, true, 8, none⟩,
    ⟨.mv (.l 1), (.var 2), none, true, 9, none⟩,
    ⟨.mv (.l 0), (.var 5), none, true, 10, none⟩]) (.seq (.reg [⟨.mv (.v 1), .push, none, true, 1, none⟩,
    ⟨.mv (.v 2), .push, none, true, 2, none⟩,
    ⟨.call 118 [(.v 0), (.l 1), (.l 0), (.v 3), (.v 4)], .push, none, false, 5, (some 0)⟩,
    ⟨.extract (.l 0) 0, .push, none, true, 7, none⟩,
    ⟨.extract (.l 1) 1, .push, none, true, 8, none⟩,
    ⟨.mv (.l 1), (.var 1), none, true, 9, none⟩,
    ⟨.mv (.l 0), (.var 2), none, true, 10, none⟩]) (.seq (.reg [⟨.mv (.v 2), (.var 6), none, true, 1, none⟩]) .ret))))), [.tmp (.v 6)]⟩
noncomputable def G117 (E : Env) : ZFn := ⟨41, [0, 1, 2, 4, 5, 3, 12], fun cy Y fuel =>
  (zSeq (zReg fun k => (zDst (.var 6) (vMv (.k (.int .i64 0)))) k)
  (zSeq (zReg fun k => (zDst .push (vMv (.v 1))) ((zDst .push (vMv (.v 2))) ((zCall (cy Y) 118 [(.v 0), (.l 1), (.l 0), (.v 3), (.v 4)] .push) ((zDst .push (vExtract 0 (.l 0))) ((zDst .push (vExtract 1 (.l 1))) ((zDst (.var 1) (vMv (.l 1))) ((zDst (.var 2) (vMv (.l 0))) k)))))))
  (zSeq (zReg fun k => (zDst .push (vMv (.v 2))) ((zDst .push (vMv (.v 5))) ((zCall (cy Y) 118 [(.v 0), (.l 1), (.l 0), (.v 3), (.v 4)] .push) ((zDst .push (vExtract 0 (.l 0))) ((zDst .push (vExtract 1 (.l 1))) ((zDst (.var 2) (vMv (.l 1))) ((zDst (.var 5) (vMv (.l 0))) k)))))))
  (zSeq (zReg fun k => (zDst .push (vMv (.v 1))) ((zDst .push (vMv (.v 2))) ((zCall (cy Y) 118 [(.v 0), (.l 1), (.l 0), (.v 3), (.v 4)] .push) ((zDst .push (vExtract 0 (.l 0))) ((zDst .push (vExtract 1 (.l 1))) ((zDst (.var 1) (vMv (.l 1))) ((zDst (.var 2) (vMv (.l 0))) k)))))))
  (zSeq (zReg fun k => (zDst (.var 6) (vMv (.v 2))) k)
  zRet))))), [.tmp (.v 6)]⟩
theorem G117_ok (fn : Nat → Option Func) (pu : Nat → Bool) (pr : Nat → List AV → Option (Heap → Option (Eff × Acc))) : ZOk ⟨Try.tyT, fn, pu, pr⟩ npT F117 (G117 ⟨Try.tyT, fn, pu, pr⟩) := ⟨rfl, rfl, rfl, fun cy Y k => by kernel_rfl⟩
noncomputable def F118 : FFn := ⟨32, [4, 0, 2, 1, 3, 10, 11], (.seq (.reg [⟨.mv (.k (.int .i64 0)), (.var 5), none, true, 0, none⟩,
    ⟨.mv (.k (.int .i64 0)), (.var 6), none, true, 1, none⟩]) (.seq (.seq (.dreg 1 [0, 0, 0, 6, 14, 0, 0, 96, 224, 511, 1023] [⟨.indexAddr 102 (.v 1) (.v 2), .push, none, true, 3, none⟩,
    ⟨.load 104 (.l 0), .push, none, true, 4, none⟩,
    ⟨.indexAddr 102 (.v 1) (.v 3), .push, none, true, 7, none⟩,
    ⟨.load 104 (.l 0), .push, none, true, 8, none⟩,
    ⟨.callv (.v 0) [(.l 2), (.l 0)], .push, none, false, 9, (some 0)⟩,
    ⟨.bin .lss 3 false true (.l 0) (.k (.int .i64 0)), .push, none, false, 10, none⟩]) (.cond (.l 0) (.seq (.reg [⟨.nilCheck (.v 4), .push, none, true, 1, none⟩,
    ⟨.load 3 (.l 0), .push, none, true, 2, none⟩,
    ⟨.bin .add 3 false true (.l 0) (.k (.int .i64 1)), .push, none, false, 3, none⟩,
    ⟨.nilCheck (.v 4), .push, none, true, 4, none⟩,
    ⟨.store 3 (.l 0) (.l 1), .none, none, false, 5, none⟩]) (.seq (.reg [⟨.mv (.v 2), (.var 5), none, true, 2, none⟩,
    ⟨.mv (.v 3), (.var 6), none, true, 3, none⟩]) .ret)) .skip)) (.seq (.reg [⟨.mv (.v 3), (.var 5), none, true, 2, none⟩,
    ⟨.mv (.v 2), (.var 6), none, true, 3, none⟩]) .ret))), [.tmp (.v 5), .tmp (.v 6)]⟩
noncomputable def G118 (E : Env) : ZFn := ⟨32, [4, 0, 2, 1, 3, 10, 11], fun cy Y fuel =>
  (zSeq (zReg fun k => (zDst (.var 5) (vMv (.k (.int .i64 0)))) ((zDst (.var 6) (vMv (.k (.int .i64 0)))) k))
  (zSeq (zSeq (zDreg 1 fun n0 k => (fun k sp => zDst .push (vIndexAddr 2 (.v 1) (.v 2)) (k sp)) ((zDstWD [0, 0, 0, 6, 14, 0, 0, 96, 224, 511, 1023] 4 .push (wLoad 2 true (.l 0))) ((fun k sp => zDst .push (vIndexAddr 2 (.v 1) (.v 3)) (k sp)) ((zDstWD [0, 0, 0, 6, 14, 0, 0, 96, 224, 511, 1023] 8 .push (wLoad 2 true (.l 0))) ((zStepD E (cy Y) [0, 0, 0, 6, 14, 0, 0, 96, 224, 511, 1023] n0 ⟨.callv (.v 0) [(.l 2), (.l 0)], .push, none, false, 9, (some 0)⟩) ((fun k sp => zDst .push (vInt E fLss .lss 3 false true (.l 0) (.k (.int .i64 0))) (k sp)) k))))))
  (zCond (.l 0) (zSeq (zReg fun k => (zDst .push (vNilCheck (.v 4))) ((zDstW .push (wLoad 1 false (.l 0))) ((zDst .push (vInt E fAdd .add 3 false true (.l 0) (.k (.int .i64 1)))) ((zDst .push (vNilCheck (.v 4))) ((zStep E (cy Y) ⟨.store 3 (.l 0) (.l 1), .none, none, false, 5, none⟩) k)))))
  (zSeq (zReg fun k => (zDst (.var 5) (vMv (.v 2))) ((zDst (.var 6) (vMv (.v 3))) k))
  zRet)) zSkip))
  (zSeq (zReg fun k => (zDst (.var 5) (vMv (.v 3))) ((zDst (.var 6) (vMv (.v 2))) k))
  zRet))), [.tmp (.v 5), .tmp (.v 6)]⟩
theorem G118_ok (fn : Nat → Option Func) (pu : Nat → Bool) (pr : Nat → List AV → Option (Heap → Option (Eff × Acc))) : ZOk ⟨Try.tyT, fn, pu, pr⟩ npT F118 (G118 ⟨Try.tyT, fn, pu, pr⟩) := ⟨rfl, rfl, rfl, fun cy Y k => by kernel_rfl⟩
end Go.Proofs.PxTry
