/- The functions of the seat, in one breath: part 1. -/
import Derived.Test.YtnpphcbfainkbaaPzTryF0
import Derived.KernelRfl
set_option maxRecDepth 100000
set_option linter.unusedVariables false
set_option linter.unusedSimpArgs false
namespace Go.Proofs.PxTry
open Go Go.Px Go.Proofs
noncomputable def F23 : FFn := ⟨30, [0, 4, 1, 3, 2], (.seq (.reg [⟨.box 25 (.v 0), (.var 2), none, false, 0, (some 0)⟩,
    ⟨.mv (.k (.sl 0 [] true)), (.var 4), none, true, 1, none⟩]) (.seq (.reg [⟨.mv (.k (.sl 0 [] true)), (.var 3), none, true, 0, none⟩]) (.seq (.seq (.reg [⟨.mv (.k (.int .i64 0)), (.var 1), none, true, 0, none⟩]) (.block 0 (.loop (.seq (.seq (.reg [⟨.fieldAddr 25 (.v 2) 0, .push, none, true, 1, none⟩,
    ⟨.load 22 (.l 0), .push, none, true, 2, none⟩,
    ⟨.len 22 (.l 0), .push, none, false, 3, none⟩,
    ⟨.bin .lss 3 false false (.v 1) (.l 0), .push, none, false, 4, none⟩]) (.cond (.l 0) .skip (.exit 0))) (.seq (.block 1 (.seq (.reg [⟨.fieldAddr 25 (.v 2) 0, .push, none, true, 0, none⟩,
    ⟨.load 22 (.l 0), .push, none, true, 1, none⟩,
    ⟨.indexAddr 22 (.l 0) (.v 1), .push, none, true, 3, none⟩,
    ⟨.fieldAddr 56 (.l 0) 1, .push, none, true, 4, none⟩,
    ⟨.load 42 (.l 0), .push, none, true, 5, none⟩,
    ⟨.bin .rem 42 false true (.l 0) (.k (.int .u64 2)), .push, none, false, 6, none⟩,
    ⟨.bin .eql 42 false true (.l 0) (.k (.int .u64 1)), .push, none, false, 7, none⟩]) (.cond (.l 0) (.reg [⟨.mv (.v 3), .push, none, true, 0, none⟩,
    ⟨.fieldAddr 25 (.v 2) 0, .push, none, true, 1, none⟩,
    ⟨.load 22 (.l 0), .push, none, true, 2, none⟩,
    ⟨.indexAddr 22 (.l 0) (.v 1), .push, none, true, 4, none⟩,
    ⟨.fieldAddr 56 (.l 0) 0, .push, none, true, 5, none⟩,
    ⟨.load 3 (.l 0), .push, none, true, 6, none⟩,
    ⟨.buildSlice 32 1 [(0, (.l 0))], .push, none, false, 7, (some 0)⟩,
    ⟨.append 32 32 (.l 6) (.l 0), .push, none, false, 8, (some 1)⟩,
    ⟨.mv (.l 0), (.var 3), none, true, 9, none⟩]) .skip))) (.reg [⟨.mv (.v 1), .push, none, true, 0, none⟩,
    ⟨.bin .add 3 false true (.l 0) (.k (.int .i64 1)), .push, none, false, 1, none⟩,
    ⟨.mv (.l 0), (.var 1), none, true, 2, none⟩])))))) (.seq (.reg [⟨.mv (.v 3), (.var 4), none, true, 1, none⟩]) .ret)))), [.tmp (.v 4)]⟩
noncomputable def G23 (E : Env) : ZFn := ⟨30, [0, 4, 1, 3, 2], fun cy Y fuel =>
  (zSeq (zReg fun k => (zStep E (cy Y) ⟨.box 25 (.v 0), (.var 2), none, false, 0, (some 0)⟩) ((zDst (.var 4) (vMv (.k (.sl 0 [] true)))) k))
  (zSeq (zReg fun k => (zDst (.var 3) (vMv (.k (.sl 0 [] true)))) k)
  (zSeq (zSeq (zReg fun k => (zDst (.var 1) (vMv (.k (.int .i64 0)))) k)
  (zBlock 0 (zLoop fuel (zSeq (zSeq (zReg fun k => (zDst .push (vFieldAddr 0 (.v 2))) ((zDstW .push (wLoad 1 false (.l 0))) ((zDst .push (vLenL (.l 0))) ((zDst .push (vInt E fLss .lss 3 false false (.v 1) (.l 0))) k))))
  (zCond (.l 0) zSkip (zExit 0)))
  (zSeq (zBlock 1 (zSeq (zReg fun k => (zDst .push (vFieldAddr 0 (.v 2))) ((zDstW .push (wLoad 1 false (.l 0))) ((zDst .push (vIndexAddr 2 (.l 0) (.v 1))) ((zDst .push (vFieldAddr 1 (.l 0))) ((zDstW .push (wLoad 1 false (.l 0))) ((zDst .push (vInt E (fGen .rem) .rem 42 false true (.l 0) (.k (.int .u64 2)))) ((zDst .push (vInt E fEql .eql 42 false true (.l 0) (.k (.int .u64 1)))) k)))))))
  (zCond (.l 0) (zReg fun k => (zDst .push (vMv (.v 3))) ((zDst .push (vFieldAddr 0 (.v 2))) ((zDstW .push (wLoad 1 false (.l 0))) ((zDst .push (vIndexAddr 2 (.l 0) (.v 1))) ((zDst .push (vFieldAddr 0 (.l 0))) ((zDstW .push (wLoad 1 false (.l 0))) ((zStep E (cy Y) ⟨.buildSlice 32 1 [(0, (.l 0))], .push, none, false, 7, (some 0)⟩) ((zStep E (cy Y) ⟨.append 32 32 (.l 6) (.l 0), .push, none, false, 8, (some 1)⟩) ((zDst (.var 3) (vMv (.l 0))) k))))))))) zSkip)))
  (zReg fun k => (zDst .push (vMv (.v 1))) ((zDst .push (vInt E fAdd .add 3 false true (.l 0) (.k (.int .i64 1)))) ((zDst (.var 1) (vMv (.l 0))) k))))))))
  (zSeq (zReg fun k => (zDst (.var 4) (vMv (.v 3))) k)
  zRet)))), [.tmp (.v 4)]⟩
theorem G23_ok (fn : Nat → Option Func) (pu : Nat → Bool) (pr : Nat → List AV → Option (Heap → Option (Eff × Acc))) : ZOk ⟨Try.tyT, fn, pu, pr⟩ npT F23 (G23 ⟨Try.tyT, fn, pu, pr⟩) := ⟨rfl, rfl, rfl, fun cy Y k => by kernel_rfl⟩
noncomputable def F24 : FFn := ⟨24, [0, 1, 2, 4, 5], (.seq (.reg [⟨.box 25 (.v 0), (.var 2), none, false, 0, (some 0)⟩,
    ⟨.alloc 25, (.var 3), none, false, 1, (some 1)⟩]) (.seq (.seq (.reg [⟨.bin .lss 3 false true (.v 1) (.k (.int .i64 0)), .push, none, false, 1, none⟩,
    ⟨.mv (.v 1), .push, (some ((.l 0), false)), true, 3, none⟩,
    ⟨.bin .geq 3 false true (.l 0) (.k (.int .i64 4)), .push, (some ((.l 1), false)), false, 4, none⟩,
    ⟨.pick (.l 2) (.k (.bool true)) (.l 0), .push, none, true, 5, none⟩]) (.cond (.l 0) (.seq (.reg [⟨.load 25 (.v 2), .push, none, true, 0, none⟩,
    ⟨.store 25 (.v 3) (.l 0), .none, none, false, 1, none⟩]) .ret) .skip)) (.seq (.reg [⟨.mv (.k (.clo 60 [])), (.var 4), none, true, 0, none⟩]) (.seq (.dreg 3 [0, 1, 0, 4, 12, 0, 63, 0, 128, 511, 1023, 2047] [⟨.fieldAddr 25 (.v 2) 0, .push, none, true, 0, none⟩,
    ⟨.load 22 (.l 0), .push, none, true, 1, none⟩,
    ⟨.build 56 [(0, (.v 1)), (1, (.k (.int .u64 1)))], .push, none, false, 3, none⟩,
    ⟨.buildSlice 22 1 [(0, (.l 0))], .push, none, false, 4, (some 0)⟩,
    ⟨.call 56 [(.l 2), (.l 0), (.k (.clo 47 [])), (.v 4)], .push, none, false, 6, (some 1)⟩,
    ⟨.fieldAddr 25 (.v 2) 1, .push, none, true, 7, none⟩,
    ⟨.load 23 (.l 0), .push, none, true, 8, none⟩,
    ⟨.call 61 [(.l 0)], .push, none, false, 9, (some 2)⟩,
    ⟨.build 25 [(0, (.l 3)), (1, (.l 0))], .push, none, false, 10, none⟩,
    ⟨.store 25 (.v 3) (.l 0), .none, none, false, 11, none⟩]) .ret)))), [.cell (.v 3) 25]⟩
noncomputable def G24 (E : Env) : ZFn := ⟨24, [0, 1, 2, 4, 5], fun cy Y fuel =>
  (zSeq (zReg fun k => (zStep E (cy Y) ⟨.box 25 (.v 0), (.var 2), none, false, 0, (some 0)⟩) ((zStep E (cy Y) ⟨.alloc 25, (.var 3), none, false, 1, (some 1)⟩) k))
  (zSeq (zSeq (zReg fun k => (zDst .push (vInt E fLss .lss 3 false true (.v 1) (.k (.int .i64 0)))) ((zG (.l 0) false .push (zDst .push (vMv (.v 1)))) ((zG (.l 1) false .push (zDst .push (vInt E (fGen .geq) .geq 3 false true (.l 0) (.k (.int .i64 4))))) ((zDst .push (vPick (.l 2) (.k (.bool true)) (.l 0))) k))))
  (zCond (.l 0) (zSeq (zReg fun k => (zDstW .push (wLoad 2 true (.v 2))) ((zStep E (cy Y) ⟨.store 25 (.v 3) (.l 0), .none, none, false, 1, none⟩) k))
  zRet) zSkip))
  (zSeq (zReg fun k => (zDst (.var 4) (vMv (.k (.clo 60 [])))) k)
  (zSeq (zDreg 3 fun n0 k => (fun k sp => zDst .push (vFieldAddr 0 (.v 2)) (k sp)) ((zDstWD [0, 1, 0, 4, 12, 0, 63, 0, 128, 511, 1023, 2047] 1 .push (wLoad 1 false (.l 0))) ((zStepD E (cy Y) [0, 1, 0, 4, 12, 0, 63, 0, 128, 511, 1023, 2047] n0 ⟨.build 56 [(0, (.v 1)), (1, (.k (.int .u64 1)))], .push, none, false, 3, none⟩) ((zStepD E (cy Y) [0, 1, 0, 4, 12, 0, 63, 0, 128, 511, 1023, 2047] n0 ⟨.buildSlice 22 1 [(0, (.l 0))], .push, none, false, 4, (some 0)⟩) ((zCallD (cy Y) [0, 1, 0, 4, 12, 0, 63, 0, 128, 511, 1023, 2047] 6 56 [(.l 2), (.l 0), (.k (.clo 47 [])), (.v 4)] .push) ((fun k sp => zDst .push (vFieldAddr 1 (.v 2)) (k sp)) ((zDstWD [0, 1, 0, 4, 12, 0, 63, 0, 128, 511, 1023, 2047] 8 .push (wLoad 1 false (.l 0))) ((zStepD E (cy Y) [0, 1, 0, 4, 12, 0, 63, 0, 128, 511, 1023, 2047] n0 ⟨.call 61 [(.l 0)], .push, none, false, 9, (some 2)⟩) ((zStepD E (cy Y) [0, 1, 0, 4, 12, 0, 63, 0, 128, 511, 1023, 2047] n0 ⟨.build 25 [(0, (.l 3)), (1, (.l 0))], .push, none, false, 10, none⟩) ((zStepD E (cy Y) [0, 1, 0, 4, 12, 0, 63, 0, 128, 511, 1023, 2047] n0 ⟨.store 25 (.v 3) (.l 0), .none, none, false, 11, none⟩) k))))))))))
  zRet)))), [.cell (.v 3) 25]⟩
theorem G24_ok (fn : Nat → Option Func) (pu : Nat → Bool) (pr : Nat → List AV → Option (Heap → Option (Eff × Acc))) : ZOk ⟨Try.tyT, fn, pu, pr⟩ npT F24 (G24 ⟨Try.tyT, fn, pu, pr⟩) := ⟨rfl, rfl, rfl, fun cy Y k => by kernel_rfl⟩
noncomputable def F25 : FFn := ⟨45, [0, 1, 2, 4, 6, 5], (.seq (.reg [⟨.box 25 (.v 0), (.var 2), none, false, 0, (some 0)⟩,
    ⟨.alloc 25, (.var 3), none, false, 1, (some 1)⟩]) (.seq (.seq (.reg [⟨.bin .lss 3 false true (.v 1) (.k (.int .i64 0)), .push, none, false, 1, none⟩,
    ⟨.mv (.v 1), .push, (some ((.l 0), false)), true, 3, none⟩,
    ⟨.bin .geq 3 false true (.l 0) (.k (.int .i64 4)), .push, (some ((.l 1), false)), false, 4, none⟩,
    ⟨.pick (.l 2) (.k (.bool true)) (.l 0), .push, none, true, 5, none⟩]) (.cond (.l 0) (.seq (.reg [⟨.load 25 (.v 2), .push, none, true, 0, none⟩,
    ⟨.store 25 (.v 3) (.l 0), .none, none, false, 1, none⟩]) .ret) .skip)) (.seq (.reg [⟨.mv (.k (.int .u64 0)), (.var 5), none, true, 0, none⟩]) (.seq (.seq (.reg [⟨.mv (.k (.int .i64 0)), (.var 4), none, true, 0, none⟩]) (.block 0 (.loop (.seq (.seq (.reg [⟨.fieldAddr 25 (.v 2) 0, .push, none, true, 1, none⟩,
    ⟨.load 22 (.l 0), .push, none, true, 2, none⟩,
    ⟨.len 22 (.l 0), .push, none, false, 3, none⟩,
    ⟨.bin .lss 3 false false (.v 4) (.l 0), .push, none, false, 4, none⟩]) (.cond (.l 0) .skip (.exit 0))) (.seq (.block 1 (.seq (.reg [⟨.fieldAddr 25 (.v 2) 0, .push, none, true, 0, none⟩,
    ⟨.load 22 (.l 0), .push, none, true, 1, none⟩,
    ⟨.indexAddr 22 (.l 0) (.v 4), .push, none, true, 3, none⟩,
    ⟨.fieldAddr 56 (.l 0) 0, .push, none, true, 4, none⟩,
    ⟨.load 3 (.l 0), .push, none, true, 5, none⟩,
    ⟨.bin .eql 3 false false (.l 0) (.v 1), .push, none, false, 7, none⟩]) (.cond (.l 0) (.reg [⟨.fieldAddr 25 (.v 2) 0, .push, none, true, 0, none⟩,
    ⟨.load 22 (.l 0), .push, none, true, 1, none⟩,
    ⟨.indexAddr 22 (.l 0) (.v 4), .push, none, true, 3, none⟩,
    ⟨.fieldAddr 56 (.l 0) 1, .push, none, true, 4, none⟩,
    ⟨.load 42 (.l 0), .push, none, true, 5, none⟩,
    ⟨.mv (.l 0), (.var 5), none, true, 6, none⟩]) .skip))) (.reg [⟨.mv (.v 4), .push, none, true, 0, none⟩,
    ⟨.bin .add 3 false true (.l 0) (.k (.int .i64 1)), .push, none, false, 1, none⟩,
    ⟨.mv (.l 0), (.var 4), none, true, 2, none⟩])))))) (.seq (.dreg 1 [0, 1, 0, 0, 8, 28, 63, 0, 128, 511, 1023] [⟨.fieldAddr 25 (.v 2) 0, .push, none, true, 0, none⟩,
    ⟨.load 22 (.l 0), .push, none, true, 1, none⟩,
    ⟨.bin .add 42 false true (.v 5) (.k (.int .u64 1)), .push, none, false, 4, none⟩,
    ⟨.build 56 [(0, (.v 1)), (1, (.l 0))], .push, none, false, 5, none⟩,
    ⟨.call 58 [(.l 2), (.l 0)], .push, none, false, 6, (some 0)⟩,
    ⟨.fieldAddr 25 (.v 2) 1, .push, none, true, 7, none⟩,
    ⟨.load 23 (.l 0), .push, none, true, 8, none⟩,
    ⟨.build 25 [(0, (.l 2)), (1, (.l 0))], .push, none, false, 9, none⟩,
    ⟨.store 25 (.v 3) (.l 0), .none, none, false, 10, none⟩]) .ret))))), [.cell (.v 3) 25]⟩
noncomputable def G25 (E : Env) : ZFn := ⟨45, [0, 1, 2, 4, 6, 5], fun cy Y fuel =>
  (zSeq (zReg fun k => (zStep E (cy Y) ⟨.box 25 (.v 0), (.var 2), none, false, 0, (some 0)⟩) ((zStep E (cy Y) ⟨.alloc 25, (.var 3), none, false, 1, (some 1)⟩) k))
  (zSeq (zSeq (zReg fun k => (zDst .push (vInt E fLss .lss 3 false true (.v 1) (.k (.int .i64 0)))) ((zG (.l 0) false .push (zDst .push (vMv (.v 1)))) ((zG (.l 1) false .push (zDst .push (vInt E (fGen .geq) .geq 3 false true (.l 0) (.k (.int .i64 4))))) ((zDst .push (vPick (.l 2) (.k (.bool true)) (.l 0))) k))))
  (zCond (.l 0) (zSeq (zReg fun k => (zDstW .push (wLoad 2 true (.v 2))) ((zStep E (cy Y) ⟨.store 25 (.v 3) (.l 0), .none, none, false, 1, none⟩) k))
  zRet) zSkip))
  (zSeq (zReg fun k => (zDst (.var 5) (vMv (.k (.int .u64 0)))) k)
  (zSeq (zSeq (zReg fun k => (zDst (.var 4) (vMv (.k (.int .i64 0)))) k)
  (zBlock 0 (zLoop fuel (zSeq (zSeq (zReg fun k => (zDst .push (vFieldAddr 0 (.v 2))) ((zDstW .push (wLoad 1 false (.l 0))) ((zDst .push (vLenL (.l 0))) ((zDst .push (vInt E fLss .lss 3 false false (.v 4) (.l 0))) k))))
  (zCond (.l 0) zSkip (zExit 0)))
  (zSeq (zBlock 1 (zSeq (zReg fun k => (zDst .push (vFieldAddr 0 (.v 2))) ((zDstW .push (wLoad 1 false (.l 0))) ((zDst .push (vIndexAddr 2 (.l 0) (.v 4))) ((zDst .push (vFieldAddr 0 (.l 0))) ((zDstW .push (wLoad 1 false (.l 0))) ((zDst .push (vInt E fEql .eql 3 false false (.l 0) (.v 1))) k))))))
  (zCond (.l 0) (zReg fun k => (zDst .push (vFieldAddr 0 (.v 2))) ((zDstW .push (wLoad 1 false (.l 0))) ((zDst .push (vIndexAddr 2 (.l 0) (.v 4))) ((zDst .push (vFieldAddr 1 (.l 0))) ((zDstW .push (wLoad 1 false (.l 0))) ((zDst (.var 5) (vMv (.l 0))) k)))))) zSkip)))
  (zReg fun k => (zDst .push (vMv (.v 4))) ((zDst .push (vInt E fAdd .add 3 false true (.l 0) (.k (.int .i64 1)))) ((zDst (.var 4) (vMv (.l 0))) k))))))))
  (zSeq (zDreg 1 fun n0 k => (fun k sp => zDst .push (vFieldAddr 0 (.v 2)) (k sp)) ((zDstWD [0, 1, 0, 0, 8, 28, 63, 0, 128, 511, 1023] 1 .push (wLoad 1 false (.l 0))) ((fun k sp => zDst .push (vInt E fAdd .add 42 false true (.v 5) (.k (.int .u64 1))) (k sp)) ((zStepD E (cy Y) [0, 1, 0, 0, 8, 28, 63, 0, 128, 511, 1023] n0 ⟨.build 56 [(0, (.v 1)), (1, (.l 0))], .push, none, false, 5, none⟩) ((zCallD (cy Y) [0, 1, 0, 0, 8, 28, 63, 0, 128, 511, 1023] 6 58 [(.l 2), (.l 0)] .push) ((fun k sp => zDst .push (vFieldAddr 1 (.v 2)) (k sp)) ((zDstWD [0, 1, 0, 0, 8, 28, 63, 0, 128, 511, 1023] 8 .push (wLoad 1 false (.l 0))) ((zStepD E (cy Y) [0, 1, 0, 0, 8, 28, 63, 0, 128, 511, 1023] n0 ⟨.build 25 [(0, (.l 2)), (1, (.l 0))], .push, none, false, 9, none⟩) ((zStepD E (cy Y) [0, 1, 0, 0, 8, 28, 63, 0, 128, 511, 1023] n0 ⟨.store 25 (.v 3) (.l 0), .none, none, false, 10, none⟩) k)))))))))
  zRet))))), [.cell (.v 3) 25]⟩
theorem G25_ok (fn : Nat → Option Func) (pu : Nat → Bool) (pr : Nat → List AV → Option (Heap → Option (Eff × Acc))) : ZOk ⟨Try.tyT, fn, pu, pr⟩ npT F25 (G25 ⟨Try.tyT, fn, pu, pr⟩) := ⟨rfl, rfl, rfl, fun cy Y k => by kernel_rfl⟩
noncomputable def F26 : FFn := ⟨18, [0, 2, 1, 6, 5, 4], (.seq (.reg [⟨.box 25 (.v 0), (.var 1), none, false, 0, (some 0)⟩,
    ⟨.mv (.k (.int .i64 0)), (.var 5), none, true, 1, none⟩]) (.seq (.reg [⟨.load 25 (.v 1), .push, none, true, 0, none⟩,
    ⟨.call 62 [(.l 0), (.v 2)], .push, none, false, 2, (some 0)⟩,
    ⟨.extract (.l 0) 0, .push, none, true, 4, none⟩,
    ⟨.extract (.l 1) 1, .push, none, true, 5, none⟩,
    ⟨.alloc 60, (.var 4), none, false, 6, (some 1)⟩,
    ⟨.store 60 (.v 4) (.l 1), .none, none, false, 7, none⟩,
    ⟨.mv (.l 0), (.var 3), none, true, 8, none⟩]) (.seq (.seq (.reg [⟨.un .not (.v 3), .push, none, false, 1, none⟩]) (.cond (.l 0) (.seq (.reg [⟨.mv (.k (.int .i64 2)), (.var 5), none, true, 0, none⟩]) .ret) .skip)) (.seq (.reg [⟨.fieldAddr 60 (.v 4) 2, .push, none, true, 0, none⟩,
    ⟨.load 42 (.l 0), .push, none, true, 1, none⟩,
    ⟨.conv 42 3 (.l 0), .push, none, false, 2, none⟩,
    ⟨.mv (.l 0), (.var 5), none, true, 3, none⟩]) .ret)))), [.tmp (.v 5)]⟩
noncomputable def G26 (E : Env) : ZFn := ⟨18, [0, 2, 1, 6, 5, 4], fun cy Y fuel =>
  (zSeq (zReg fun k => (zStep E (cy Y) ⟨.box 25 (.v 0), (.var 1), none, false, 0, (some 0)⟩) ((zDst (.var 5) (vMv (.k (.int .i64 0)))) k))
  (zSeq (zReg fun k => (zDstW .push (wLoad 2 true (.v 1))) ((zCall (cy Y) 62 [(.l 0), (.v 2)] .push) ((zDst .push (vExtract 0 (.l 0))) ((zDst .push (vExtract 1 (.l 1))) ((zStep E (cy Y) ⟨.alloc 60, (.var 4), none, false, 6, (some 1)⟩) ((zStep E (cy Y) ⟨.store 60 (.v 4) (.l 1), .none, none, false, 7, none⟩) ((zDst (.var 3) (vMv (.l 0))) k)))))))
  (zSeq (zSeq (zReg fun k => (zDst .push (vNot (.v 3))) k)
  (zCond (.l 0) (zSeq (zReg fun k => (zDst (.var 5) (vMv (.k (.int .i64 2)))) k)
  zRet) zSkip))
  (zSeq (zReg fun k => (zDst .push (vFieldAddr 2 (.v 4))) ((zDstW .push (wLoad 1 false (.l 0))) ((zDst .push (vConv .i64 (.l 0))) ((zDst (.var 5) (vMv (.l 0))) k))))
  zRet)))), [.tmp (.v 5)]⟩
theorem G26_ok (fn : Nat → Option Func) (pu : Nat → Bool) (pr : Nat → List AV → Option (Heap → Option (Eff × Acc))) : ZOk ⟨Try.tyT, fn, pu, pr⟩ npT F26 (G26 ⟨Try.tyT, fn, pu, pr⟩) := ⟨rfl, rfl, rfl, fun cy Y k => by kernel_rfl⟩
noncomputable def F27 : FFn := ⟨28, [0, 5, 2, 1, 4], (.seq (.reg [⟨.box 25 (.v 0), (.var 2), none, false, 0, (some 0)⟩,
    ⟨.mv (.k (.int .i64 0)), (.var 4), none, true, 1, none⟩]) (.seq (.seq (.reg [⟨.mv (.k (.int .i64 0)), (.var 1), none, true, 0, none⟩]) (.block 0 (.loop (.seq (.seq (.reg [⟨.fieldAddr 25 (.v 2) 1, .push, none, true, 1, none⟩,
    ⟨.load 23 (.l 0), .push, none, true, 2, none⟩,
    ⟨.len 23 (.l 0), .push, none, false, 3, none⟩,
    ⟨.bin .lss 3 false false (.v 1) (.l 0), .push, none, false, 4, none⟩]) (.cond (.l 0) .skip (.exit 0))) (.seq (.block 1 (.seq (.reg [⟨.fieldAddr 25 (.v 2) 1, .push, none, true, 0, none⟩,
    ⟨.load 23 (.l 0), .push, none, true, 1, none⟩,
    ⟨.indexAddr 23 (.l 0) (.v 1), .push, none, true, 3, none⟩,
    ⟨.fieldAddr 60 (.l 0) 0, .push, none, true, 4, none⟩,
    ⟨.load 9 (.l 0), .push, none, true, 5, none⟩,
    ⟨.bin .eql 9 false false (.l 0) (.v 3), .push, none, false, 7, none⟩]) (.cond (.l 0) (.seq (.reg [⟨.fieldAddr 25 (.v 2) 1, .push, none, true, 0, none⟩,
    ⟨.load 23 (.l 0), .push, none, true, 1, none⟩,
    ⟨.indexAddr 23 (.l 0) (.v 1), .push, none, true, 3, none⟩,
    ⟨.fieldAddr 60 (.l 0) 2, .push, none, true, 4, none⟩,
    ⟨.load 42 (.l 0), .push, none, true, 5, none⟩,
    ⟨.conv 42 3 (.l 0), .push, none, false, 6, none⟩,
    ⟨.mv (.l 0), (.var 4), none, true, 7, none⟩]) .ret) .skip))) (.reg [⟨.mv (.v 1), .push, none, true, 0, none⟩,
    ⟨.bin .add 3 false true (.l 0) (.k (.int .i64 1)), .push, none, false, 1, none⟩,
    ⟨.mv (.l 0), (.var 1), none, true, 2, none⟩])))))) (.seq (.reg [⟨.mv (.k (.int .i64 2)), (.var 4), none, true, 0, none⟩]) .ret))), [.tmp (.v 4)]⟩
noncomputable def G27 (E : Env) : ZFn := ⟨28, [0, 5, 2, 1, 4], fun cy Y fuel =>
  (zSeq (zReg fun k => (zStep E (cy Y) ⟨.box 25 (.v 0), (.var 2), none, false, 0, (some 0)⟩) ((zDst (.var 4) (vMv (.k (.int .i64 0)))) k))
  (zSeq (zSeq (zReg fun k => (zDst (.var 1) (vMv (.k (.int .i64 0)))) k)
  (zBlock 0 (zLoop fuel (zSeq (zSeq (zReg fun k => (zDst .push (vFieldAddr 1 (.v 2))) ((zDstW .push (wLoad 1 false (.l 0))) ((zDst .push (vLenL (.l 0))) ((zDst .push (vInt E fLss .lss 3 false false (.v 1) (.l 0))) k))))
  (zCond (.l 0) zSkip (zExit 0)))
  (zSeq (zBlock 1 (zSeq (zReg fun k => (zDst .push (vFieldAddr 1 (.v 2))) ((zDstW .push (wLoad 1 false (.l 0))) ((zDst .push (vIndexAddr 3 (.l 0) (.v 1))) ((zDst .push (vFieldAddr 0 (.l 0))) ((zDstW .push (wLoad 1 false (.l 0))) ((zDst .push (vInt E fEql .eql 9 false false (.l 0) (.v 3))) k))))))
  (zCond (.l 0) (zSeq (zReg fun k => (zDst .push (vFieldAddr 1 (.v 2))) ((zDstW .push (wLoad 1 false (.l 0))) ((zDst .push (vIndexAddr 3 (.l 0) (.v 1))) ((zDst .push (vFieldAddr 2 (.l 0))) ((zDstW .push (wLoad 1 false (.l 0))) ((zDst .push (vConv .i64 (.l 0))) ((zDst (.var 4) (vMv (.l 0))) k)))))))
  zRet) zSkip)))
  (zReg fun k => (zDst .push (vMv (.v 1))) ((zDst .push (vInt E fAdd .add 3 false true (.l 0) (.k (.int .i64 1)))) ((zDst (.var 1) (vMv (.l 0))) k))))))))
  (zSeq (zReg fun k => (zDst (.var 4) (vMv (.k (.int .i64 2)))) k)
  zRet))), [.tmp (.v 4)]⟩
theorem G27_ok (fn : Nat → Option Func) (pu : Nat → Bool) (pr : Nat → List AV → Option (Heap → Option (Eff × Acc))) : ZOk ⟨Try.tyT, fn, pu, pr⟩ npT F27 (G27 ⟨Try.tyT, fn, pu, pr⟩) := ⟨rfl, rfl, rfl, fun cy Y k => by kernel_rfl⟩
noncomputable def F28 : FFn := ⟨52, [0, 3, 1, 8, 6, 7, 2, 9], (.seq (.reg [⟨.box 25 (.v 0), (.var 1), none, false, 0, (some 0)⟩,
    ⟨.alloc 25, (.var 4), none, false, 1, (some 1)⟩]) (.seq (.reg [⟨.load 25 (.v 1), .push, none, true, 0, none⟩,
    ⟨.call 62 [(.l 0), (.v 2)], .push, none, false, 2, (some 0)⟩,
    ⟨.extract (.l 0) 0, .push, none, true, 4, none⟩,
    ⟨.extract (.l 1) 1, .push, none, true, 5, none⟩,
    ⟨.alloc 60, (.var 5), none, false, 6, (some 1)⟩,
    ⟨.store 60 (.v 5) (.l 1), .none, none, false, 7, none⟩,
    ⟨.mv (.l 0), (.var 3), none, true, 8, none⟩]) (.seq (.seq (.reg [⟨.bin .eql 9 false true (.v 2) (.k (.str [])), .push, none, false, 1, none⟩,
    ⟨.mv (.v 2), .push, (some ((.l 0), false)), true, 3, none⟩,
    ⟨.len 9 (.l 0), .push, (some ((.l 1), false)), false, 4, none⟩,
    ⟨.bin .gtr 3 false true (.l 0) (.k (.int .i64 8)), .push, (some ((.l 2), false)), false, 5, none⟩,
    ⟨.pick (.l 3) (.k (.bool true)) (.l 0), .push, none, true, 6, none⟩,
    ⟨.mv (.v 3), .push, (some ((.l 0), false)), true, 8, none⟩,
    ⟨.un .not (.l 0), .push, (some ((.l 1), false)), false, 9, none⟩,
    ⟨.mv (.l 0), .push, (some ((.l 2), false)), true, 10, none⟩,
    ⟨.fieldAddr 25 (.v 1) 1, .push, (some ((.l 0), true)), true, 11, none⟩,
    ⟨.load 23 (.l 0), .push, (some ((.l 1), true)), true, 12, none⟩,
    ⟨.len 23 (.l 0), .push, (some ((.l 2), true)), false, 13, none⟩,
    ⟨.bin .geq 3 false true (.l 0) (.k (.int .i64 40)), .push, (some ((.l 3), true)), false, 14, none⟩,
    ⟨.pick (.l 4) (.l 0) (.k (.bool false)), .push, (some ((.l 7), false)), true, 15, none⟩,
    ⟨.pick (.l 8) (.k (.bool true)) (.l 0), .push, none, true, 16, none⟩]) (.cond (.l 0) (.seq (.reg [⟨.load 25 (.v 1), .push, none, true, 0, none⟩,
    ⟨.store 25 (.v 4) (.l 0), .none, none, false, 1, none⟩]) .ret) .skip)) (.seq (.reg [⟨.fieldAddr 60 (.v 5) 1, .push, none, true, 1, none⟩,
    ⟨.load 42 (.l 0), .push, none, true, 2, none⟩,
    ⟨.bin .add 42 false true (.l 0) (.k (.int .u64 1)), .push, none, false, 3, none⟩,
    ⟨.most true [(.v 6), (.k (.int .i64 1))], .push, none, false, 5, none⟩,
    ⟨.most false [(.l 0), (.k (.int .i64 3))], .push, none, false, 6, none⟩,
    ⟨.conv 3 42 (.l 0), .push, none, false, 7, none⟩,
    ⟨.build 60 [(0, (.v 2)), (1, (.l 3)), (2, (.l 0))], .push, none, false, 8, none⟩,
    ⟨.alloc 60, (.var 7), none, false, 9, (some 0)⟩,
    ⟨.store 60 (.v 7) (.l 0), .none, none, false, 10, none⟩]) (.seq (.dreg 3 [0, 1, 3, 0, 8, 0, 32, 127, 255, 511] [⟨.fieldAddr 25 (.v 1) 0, .push, none, true, 0, none⟩,
    ⟨.load 22 (.l 0), .push, none, true, 1, none⟩,
    ⟨.call 63 [(.l 0)], .push, none, false, 2, (some 0)⟩,
    ⟨.fieldAddr 25 (.v 1) 1, .push, none, true, 3, none⟩,
    ⟨.load 23 (.l 0), .push, none, true, 4, none⟩,
    ⟨.load 60 (.v 7), .push, none, true, 5, none⟩,
    ⟨.buildSlice 23 1 [(0, (.l 0))], .push, none, false, 6, (some 1)⟩,
    ⟨.call 51 [(.l 2), (.l 0), (.k (.clo 52 [])), (.k (.clo 64 []))], .push, none, false, 7, (some 2)⟩,
    ⟨.build 25 [(0, (.l 5)), (1, (.l 0))], .push, none, false, 8, none⟩,
    ⟨.store 25 (.v 4) (.l 0), .none, none, false, 9, none⟩]) .ret))))), [.cell (.v 4) 25]⟩
noncomputable def G28 (E : Env) : ZFn := ⟨52, [0, 3, 1, 8, 6, 7, 2, 9], fun cy Y fuel =>
  (zSeq (zReg fun k => (zStep E (cy Y) ⟨.box 25 (.v 0), (.var 1), none, false, 0, (some 0)⟩) ((zStep E (cy Y) ⟨.alloc 25, (.var 4), none, false, 1, (some 1)⟩) k))
  (zSeq (zReg fun k => (zDstW .push (wLoad 2 true (.v 1))) ((zCall (cy Y) 62 [(.l 0), (.v 2)] .push) ((zDst .push (vExtract 0 (.l 0))) ((zDst .push (vExtract 1 (.l 1))) ((zStep E (cy Y) ⟨.alloc 60, (.var 5), none, false, 6, (some 1)⟩) ((zStep E (cy Y) ⟨.store 60 (.v 5) (.l 1), .none, none, false, 7, none⟩) ((zDst (.var 3) (vMv (.l 0))) k)))))))
  (zSeq (zSeq (zReg fun k => (zDst .push (vInt E fEql .eql 9 false true (.v 2) (.k (.str [])))) ((zG (.l 0) false .push (zDst .push (vMv (.v 2)))) ((zG (.l 1) false .push (zDst .push (vLenS (.l 0)))) ((zG (.l 2) false .push (zDst .push (vInt E fGtr .gtr 3 false true (.l 0) (.k (.int .i64 8))))) ((zDst .push (vPick (.l 3) (.k (.bool true)) (.l 0))) ((zG (.l 0) false .push (zDst .push (vMv (.v 3)))) ((zG (.l 1) false .push (zDst .push (vNot (.l 0)))) ((zG (.l 2) false .push (zDst .push (vMv (.l 0)))) ((zG (.l 0) true .push (zDst .push (vFieldAddr 1 (.v 1)))) ((zG (.l 1) true .push (zDstW .push (wLoad 1 false (.l 0)))) ((zG (.l 2) true .push (zDst .push (vLenL (.l 0)))) ((zG (.l 3) true .push (zDst .push (vInt E (fGen .geq) .geq 3 false true (.l 0) (.k (.int .i64 40))))) ((zG (.l 7) false .push (zDst .push (vPick (.l 4) (.l 0) (.k (.bool false))))) ((zDst .push (vPick (.l 8) (.k (.bool true)) (.l 0))) k))))))))))))))
  (zCond (.l 0) (zSeq (zReg fun k => (zDstW .push (wLoad 2 true (.v 1))) ((zStep E (cy Y) ⟨.store 25 (.v 4) (.l 0), .none, none, false, 1, none⟩) k))
  zRet) zSkip))
  (zSeq (zReg fun k => (zDst .push (vFieldAddr 1 (.v 5))) ((zDstW .push (wLoad 1 false (.l 0))) ((zDst .push (vInt E fAdd .add 42 false true (.l 0) (.k (.int .u64 1)))) ((zStep E (cy Y) ⟨.most true [(.v 6), (.k (.int .i64 1))], .push, none, false, 5, none⟩) ((zStep E (cy Y) ⟨.most false [(.l 0), (.k (.int .i64 3))], .push, none, false, 6, none⟩) ((zDst .push (vConv .u64 (.l 0))) ((zStep E (cy Y) ⟨.build 60 [(0, (.v 2)), (1, (.l 3)), (2, (.l 0))], .push, none, false, 8, none⟩) ((zStep E (cy Y) ⟨.alloc 60, (.var 7), none, false, 9, (some 0)⟩) ((zStep E (cy Y) ⟨.store 60 (.v 7) (.l 0), .none, none, false, 10, none⟩) k)))))))))
  (zSeq (zDreg 3 fun n0 k => (fun k sp => zDst .push (vFieldAddr 0 (.v 1)) (k sp)) ((zDstWD [0, 1, 3, 0, 8, 0, 32, 127, 255, 511] 1 .push (wLoad 1 false (.l 0))) ((zStepD E (cy Y) [0, 1, 3, 0, 8, 0, 32, 127, 255, 511] n0 ⟨.call 63 [(.l 0)], .push, none, false, 2, (some 0)⟩) ((fun k sp => zDst .push (vFieldAddr 1 (.v 1)) (k sp)) ((zDstWD [0, 1, 3, 0, 8, 0, 32, 127, 255, 511] 4 .push (wLoad 1 false (.l 0))) ((zDstWD [0, 1, 3, 0, 8, 0, 32, 127, 255, 511] 5 .push (wLoad 3 true (.v 7))) ((zStepD E (cy Y) [0, 1, 3, 0, 8, 0, 32, 127, 255, 511] n0 ⟨.buildSlice 23 1 [(0, (.l 0))], .push, none, false, 6, (some 1)⟩) ((zCallD (cy Y) [0, 1, 3, 0, 8, 0, 32, 127, 255, 511] 7 51 [(.l 2), (.l 0), (.k (.clo 52 [])), (.k (.clo 64 []))] .push) ((zStepD E (cy Y) [0, 1, 3, 0, 8, 0, 32, 127, 255, 511] n0 ⟨.build 25 [(0, (.l 5)), (1, (.l 0))], .push, none, false, 8, none⟩) ((zStepD E (cy Y) [0, 1, 3, 0, 8, 0, 32, 127, 255, 511] n0 ⟨.store 25 (.v 4) (.l 0), .none, none, false, 9, none⟩) k))))))))))
  zRet))))), [.cell (.v 4) 25]⟩
theorem G28_ok (fn : Nat → Option Func) (pu : Nat → Bool) (pr : Nat → List AV → Option (Heap → Option (Eff × Acc))) : ZOk ⟨Try.tyT, fn, pu, pr⟩ npT F28 (G28 ⟨Try.tyT, fn, pu, pr⟩) := ⟨rfl, rfl, rfl, fun cy Y k => by kernel_rfl⟩
noncomputable def F29 : FFn := ⟨63, [0, 8, 3, 1, 7, 6, 2], (.seq (.reg [⟨.box 25 (.v 0), (.var 2), none, false, 0, (some 0)⟩,
    ⟨.alloc 25, (.var 5), none, false, 1, (some 1)⟩]) (.seq (.reg [⟨.mv (.k (.int .u64 0)), (.var 4), none, true, 0, none⟩]) (.seq (.seq (.reg [⟨.mv (.k (.int .i64 0)), (.var 1), none, true, 0, none⟩]) (.block 0 (.loop (.seq (.seq (.reg [⟨.fieldAddr 25 (.v 2) 1, .push, none, true, 1, none⟩,
    ⟨.load 23 (.l 0), .push, none, true, 2, none⟩,
    ⟨.len 23 (.l 0), .push, none, false, 3, none⟩,
    ⟨.bin .lss 3 false false (.v 1) (.l 0), .push, none, false, 4, none⟩]) (.cond (.l 0) .skip (.exit 0))) (.seq (.block 1 (.seq (.reg [⟨.fieldAddr 25 (.v 2) 1, .push, none, true, 0, none⟩,
    ⟨.load 23 (.l 0), .push, none, true, 1, none⟩,
    ⟨.indexAddr 23 (.l 0) (.v 1), .push, none, true, 3, none⟩,
    ⟨.fieldAddr 60 (.l 0) 0, .push, none, true, 4, none⟩,
    ⟨.load 9 (.l 0), .push, none, true, 5, none⟩,
    ⟨.bin .eql 9 false false (.l 0) (.v 3), .push, none, false, 7, none⟩]) (.cond (.l 0) (.reg [⟨.fieldAddr 25 (.v 2) 1, .push, none, true, 0, none⟩,
    ⟨.load 23 (.l 0), .push, none, true, 1, none⟩,
    ⟨.indexAddr 23 (.l 0) (.v 1), .push, none, true, 3, none⟩,
    ⟨.fieldAddr 60 (.l 0) 1, .push, none, true, 4, none⟩,
    ⟨.load 42 (.l 0), .push, none, true, 5, none⟩,
    ⟨.mv (.l 0), (.var 4), none, true, 6, none⟩]) .skip))) (.reg [⟨.mv (.v 1), .push, none, true, 0, none⟩,
    ⟨.bin .add 3 false true (.l 0) (.k (.int .i64 1)), .push, none, false, 1, none⟩,
    ⟨.mv (.l 0), (.var 1), none, true, 2, none⟩])))))) (.seq (.seq (.reg [⟨.len 9 (.v 3), .push, none, false, 1, none⟩,
    ⟨.bin .lss 3 false true (.l 0) (.k (.int .i64 1)), .push, none, false, 2, none⟩,
    ⟨.mv (.v 3), .push, (some ((.l 0), false)), true, 4, none⟩,
    ⟨.len 9 (.l 0), .push, (some ((.l 1), false)), false, 5, none⟩,
    ⟨.bin .gtr 3 false true (.l 0) (.k (.int .i64 8)), .push, (some ((.l 2), false)), false, 6, none⟩,
    ⟨.pick (.l 3) (.k (.bool true)) (.l 0), .push, none, true, 7, none⟩,
    ⟨.mv (.v 4), .push, (some ((.l 0), false)), true, 9, none⟩,
    ⟨.bin .eql 42 false true (.l 0) (.k (.int .u64 0)), .push, (some ((.l 1), false)), false, 10, none⟩,
    ⟨.mv (.l 0), .push, (some ((.l 2), false)), true, 11, none⟩,
    ⟨.fieldAddr 25 (.v 2) 1, .push, (some ((.l 0), true)), true, 12, none⟩,
    ⟨.load 23 (.l 0), .push, (some ((.l 1), true)), true, 13, none⟩,
    ⟨.len 23 (.l 0), .push, (some ((.l 2), true)), false, 14, none⟩,
    ⟨.bin .geq 3 false true (.l 0) (.k (.int .i64 40)), .push, (some ((.l 3), true)), false, 15, none⟩,
    ⟨.pick (.l 4) (.l 0) (.k (.bool false)), .push, (some ((.l 7), false)), true, 16, none⟩,
    ⟨.pick (.l 8) (.k (.bool true)) (.l 0), .push, none, true, 17, none⟩]) (.cond (.l 0) (.seq (.reg [⟨.load 25 (.v 2), .push, none, true, 0, none⟩,
    ⟨.store 25 (.v 5) (.l 0), .none, none, false, 1, none⟩]) .ret) .skip)) (.seq (.dreg 1 [0, 1, 0, 4, 0, 0, 32, 0, 128, 384, 896, 2032, 4092, 8191, 16383] [⟨.fieldAddr 25 (.v 2) 0, .push, none, true, 0, none⟩,
    ⟨.load 22 (.l 0), .push, none, true, 1, none⟩,
    ⟨.fieldAddr 25 (.v 2) 1, .push, none, true, 2, none⟩,
    ⟨.load 23 (.l 0), .push, none, true, 3, none⟩,
    ⟨.bin .add 42 false true (.v 4) (.k (.int .u64 1)), .push, none, false, 6, none⟩,
    ⟨.most false [(.v 6), (.k (.int .i64 3))], .push, none, false, 8, none⟩,
    ⟨.most true [(.k (.int .i64 1)), (.l 0)], .push, none, false, 9, none⟩,
    ⟨.conv 3 42 (.l 0), .push, none, false, 10, none⟩,
    ⟨.build 60 [(0, (.v 3)), (1, (.l 3)), (2, (.l 0))], .push, none, false, 11, none⟩,
    ⟨.call 59 [(.l 5), (.l 0)], .push, none, false, 12, (some 0)⟩,
    ⟨.build 25 [(0, (.l 8)), (1, (.l 0))], .push, none, false, 13, none⟩,
    ⟨.store 25 (.v 5) (.l 0), .none, none, false, 14, none⟩]) .ret))))), [.cell (.v 5) 25]⟩
noncomputable def G29 (E : Env) : ZFn := ⟨63, [0, 8, 3, 1, 7, 6, 2], fun cy Y fuel =>
  (zSeq (zReg fun k => (zStep E (cy Y) ⟨.box 25 (.v 0), (.var 2), none, false, 0, (some 0)⟩) ((zStep E (cy Y) ⟨.alloc 25, (.var 5), none, false, 1, (some 1)⟩) k))
  (zSeq (zReg fun k => (zDst (.var 4) (vMv (.k (.int .u64 0)))) k)
  (zSeq (zSeq (zReg fun k => (zDst (.var 1) (vMv (.k (.int .i64 0)))) k)
  (zBlock 0 (zLoop fuel (zSeq (zSeq (zReg fun k => (zDst .push (vFieldAddr 1 (.v 2))) ((zDstW .push (wLoad 1 false (.l 0))) ((zDst .push (vLenL (.l 0))) ((zDst .push (vInt E fLss .lss 3 false false (.v 1) (.l 0))) k))))
  (zCond (.l 0) zSkip (zExit 0)))
  (zSeq (zBlock 1 (zSeq (zReg fun k => (zDst .push (vFieldAddr 1 (.v 2))) ((zDstW .push (wLoad 1 false (.l 0))) ((zDst .push (vIndexAddr 3 (.l 0) (.v 1))) ((zDst .push (vFieldAddr 0 (.l 0))) ((zDstW .push (wLoad 1 false (.l 0))) ((zDst .push (vInt E fEql .eql 9 false false (.l 0) (.v 3))) k))))))
  (zCond (.l 0) (zReg fun k => (zDst .push (vFieldAddr 1 (.v 2))) ((zDstW .push (wLoad 1 false (.l 0))) ((zDst .push (vIndexAddr 3 (.l 0) (.v 1))) ((zDst .push (vFieldAddr 1 (.l 0))) ((zDstW .push (wLoad 1 false (.l 0))) ((zDst (.var 4) (vMv (.l 0))) k)))))) zSkip)))
  (zReg fun k => (zDst .push (vMv (.v 1))) ((zDst .push (vInt E fAdd .add 3 false true (.l 0) (.k (.int .i64 1)))) ((zDst (.var 1) (vMv (.l 0))) k))))))))
  (zSeq (zSeq (zReg fun k => (zDst .push (vLenS (.v 3))) ((zDst .push (vInt E fLss .lss 3 false true (.l 0) (.k (.int .i64 1)))) ((zG (.l 0) false .push (zDst .push (vMv (.v 3)))) ((zG (.l 1) false .push (zDst .push (vLenS (.l 0)))) ((zG (.l 2) false .push (zDst .push (vInt E fGtr .gtr 3 false true (.l 0) (.k (.int .i64 8))))) ((zDst .push (vPick (.l 3) (.k (.bool true)) (.l 0))) ((zG (.l 0) false .push (zDst .push (vMv (.v 4)))) ((zG (.l 1) false .push (zDst .push (vInt E fEql .eql 42 false true (.l 0) (.k (.int .u64 0))))) ((zG (.l 2) false .push (zDst .push (vMv (.l 0)))) ((zG (.l 0) true .push (zDst .push (vFieldAddr 1 (.v 2)))) ((zG (.l 1) true .push (zDstW .push (wLoad 1 false (.l 0)))) ((zG (.l 2) true .push (zDst .push (vLenL (.l 0)))) ((zG (.l 3) true .push (zDst .push (vInt E (fGen .geq) .geq 3 false true (.l 0) (.k (.int .i64 40))))) ((zG (.l 7) false .push (zDst .push (vPick (.l 4) (.l 0) (.k (.bool false))))) ((zDst .push (vPick (.l 8) (.k (.bool true)) (.l 0))) k)))))))))))))))
  (zCond (.l 0) (zSeq (zReg fun k => (zDstW .push (wLoad 2 true (.v 2))) ((zStep E (cy Y) ⟨.store 25 (.v 5) (.l 0), .none, none, false, 1, none⟩) k))
  zRet) zSkip))
  (zSeq (zDreg 1 fun n0 k => (fun k sp => zDst .push (vFieldAddr 0 (.v 2)) (k sp)) ((zDstWD [0, 1, 0, 4, 0, 0, 32, 0, 128, 384, 896, 2032, 4092, 8191, 16383] 1 .push (wLoad 1 false (.l 0))) ((fun k sp => zDst .push (vFieldAddr 1 (.v 2)) (k sp)) ((zDstWD [0, 1, 0, 4, 0, 0, 32, 0, 128, 384, 896, 2032, 4092, 8191, 16383] 3 .push (wLoad 1 false (.l 0))) ((fun k sp => zDst .push (vInt E fAdd .add 42 false true (.v 4) (.k (.int .u64 1))) (k sp)) ((zStepD E (cy Y) [0, 1, 0, 4, 0, 0, 32, 0, 128, 384, 896, 2032, 4092, 8191, 16383] n0 ⟨.most false [(.v 6), (.k (.int .i64 3))], .push, none, false, 8, none⟩) ((zStepD E (cy Y) [0, 1, 0, 4, 0, 0, 32, 0, 128, 384, 896, 2032, 4092, 8191, 16383] n0 ⟨.most true [(.k (.int .i64 1)), (.l 0)], .push, none, false, 9, none⟩) ((fun k sp => zDst .push (vConv .u64 (.l 0)) (k sp)) ((zStepD E (cy Y) [0, 1, 0, 4, 0, 0, 32, 0, 128, 384, 896, 2032, 4092, 8191, 16383] n0 ⟨.build 60 [(0, (.v 3)), (1, (.l 3)), (2, (.l 0))], .push, none, false, 11, none⟩) ((zCallD (cy Y) [0, 1, 0, 4, 0, 0, 32, 0, 128, 384, 896, 2032, 4092, 8191, 16383] 12 59 [(.l 5), (.l 0)] .push) ((zStepD E (cy Y) [0, 1, 0, 4, 0, 0, 32, 0, 128, 384, 896, 2032, 4092, 8191, 16383] n0 ⟨.build 25 [(0, (.l 8)), (1, (.l 0))], .push, none, false, 13, none⟩) ((zStepD E (cy Y) [0, 1, 0, 4, 0, 0, 32, 0, 128, 384, 896, 2032, 4092, 8191, 16383] n0 ⟨.store 25 (.v 5) (.l 0), .none, none, false, 14, none⟩) k))))))))))))
  zRet))))), [.cell (.v 5) 25]⟩
theorem G29_ok (fn : Nat → Option Func) (pu : Nat → Bool) (pr : Nat → List AV → Option (Heap → Option (Eff × Acc))) : ZOk ⟨Try.tyT, fn, pu, pr⟩ npT F29 (G29 ⟨Try.tyT, fn, pu, pr⟩) := ⟨rfl, rfl, rfl, fun cy Y k => by kernel_rfl⟩
noncomputable def F30 : FFn := ⟨18, [5, 0, 1, 4], (.seq (.reg [⟨.mv (.k (.bool false)), (.var 3), none, true, 0, none⟩]) (.seq (.seq (.reg [⟨.mv (.k (.int .i64 0)), (.var 0), none, true, 0, none⟩]) (.block 0 (.loop (.seq (.seq (.reg [⟨.len 32 (.v 1), .push, none, false, 2, none⟩,
    ⟨.bin .lss 3 false false (.v 0) (.l 0), .push, none, false, 3, none⟩]) (.cond (.l 0) .skip (.exit 0))) (.seq (.block 1 (.seq (.reg [⟨.indexAddr 32 (.v 1) (.v 0), .push, none, true, 2, none⟩,
    ⟨.load 3 (.l 0), .push, none, true, 3, none⟩,
    ⟨.bin .eql 3 false false (.l 0) (.v 2), .push, none, false, 5, none⟩]) (.cond (.l 0) (.seq (.reg [⟨.mv (.k (.bool true)), (.var 3), none, true, 0, none⟩]) .ret) .skip))) (.reg [⟨.mv (.v 0), .push, none, true, 0, none⟩,
    ⟨.bin .add 3 false true (.l 0) (.k (.int .i64 1)), .push, none, false, 1, none⟩,
    ⟨.mv (.l 0), (.var 0), none, true, 2, none⟩])))))) (.seq (.reg [⟨.mv (.k (.bool false)), (.var 3), none, true, 0, none⟩]) .ret))), [.tmp (.v 3)]⟩
noncomputable def G30 (E : Env) : ZFn := ⟨18, [5, 0, 1, 4], fun cy Y fuel =>
  (zSeq (zReg fun k => (zDst (.var 3) (vMv (.k (.bool false)))) k)
  (zSeq (zSeq (zReg fun k => (zDst (.var 0) (vMv (.k (.int .i64 0)))) k)
  (zBlock 0 (zLoop fuel (zSeq (zSeq (zReg fun k => (zDst .push (vLenL (.v 1))) ((zDst .push (vInt E fLss .lss 3 false false (.v 0) (.l 0))) k))
  (zCond (.l 0) zSkip (zExit 0)))
  (zSeq (zBlock 1 (zSeq (zReg fun k => (zDst .push (vIndexAddr 1 (.v 1) (.v 0))) ((zDstW .push (wLoad 1 false (.l 0))) ((zDst .push (vInt E fEql .eql 3 false false (.l 0) (.v 2))) k)))
  (zCond (.l 0) (zSeq (zReg fun k => (zDst (.var 3) (vMv (.k (.bool true)))) k)
  zRet) zSkip)))
  (zReg fun k => (zDst .push (vMv (.v 0))) ((zDst .push (vInt E fAdd .add 3 false true (.l 0) (.k (.int .i64 1)))) ((zDst (.var 0) (vMv (.l 0))) k))))))))
  (zSeq (zReg fun k => (zDst (.var 3) (vMv (.k (.bool false)))) k)
  zRet))), [.tmp (.v 3)]⟩
theorem G30_ok (fn : Nat → Option Func) (pu : Nat → Bool) (pr : Nat → List AV → Option (Heap → Option (Eff × Acc))) : ZOk ⟨Try.tyT, fn, pu, pr⟩ npT F30 (G30 ⟨Try.tyT, fn, pu, pr⟩) := ⟨rfl, rfl, rfl, fun cy Y k => by kernel_rfl⟩
noncomputable def F31 : FFn := ⟨34, [1, 0], (.seq (.reg [⟨.mv (.k (.bool false)), (.var 1), none, true, 0, none⟩]) (.seq (.reg [⟨.buildSlice 32 3 [(0, (.k (.int .i64 0))), (1, (.k (.int .i64 1))), (2, (.k (.int .i64 2)))], .push, none, false, 0, (some 0)⟩,
    ⟨.call 36 [(.l 0), (.k (.str [109, 49]))], .push, none, false, 1, (some 1)⟩,
    ⟨.mv (.l 0), (.var 0), none, true, 2, none⟩]) (.seq (.reg [⟨.len 32 (.v 0), .push, none, false, 1, none⟩,
    ⟨.bin .eql 3 false true (.l 0) (.k (.int .i64 3)), .push, none, false, 2, none⟩,
    ⟨.buildSlice 32 3 [(0, (.k (.int .i64 0))), (1, (.k (.int .i64 1))), (2, (.k (.int .i64 2)))], .push, (some ((.l 0), true)), false, 4, (some 0)⟩,
    ⟨.call 38 [(.l 0), (.k (.str [109, 49])), (.k (.int .i64 2))], .push, (some ((.l 1), true)), false, 5, (some 1)⟩,
    ⟨.len 32 (.l 0), .push, (some ((.l 2), true)), false, 6, none⟩,
    ⟨.bin .eql 3 false true (.l 0) (.k (.int .i64 2)), .push, (some ((.l 3), true)), false, 7, none⟩,
    ⟨.pick (.l 4) (.l 0) (.k (.bool false)), .push, none, true, 8, none⟩,
    ⟨.buildSlice 32 1 [(0, (.k (.int .i64 0)))], .push, (some ((.l 0), true)), false, 10, (some 2)⟩,
    ⟨.call 38 [(.l 0), (.k (.str [109, 49])), (.k (.int .i64 2))], .push, (some ((.l 1), true)), false, 11, (some 3)⟩,
    ⟨.len 32 (.l 0), .push, (some ((.l 2), true)), false, 12, none⟩,
    ⟨.bin .eql 3 false true (.l 0) (.k (.int .i64 1)), .push, (some ((.l 3), true)), false, 13, none⟩,
    ⟨.pick (.l 4) (.l 0) (.k (.bool false)), .push, none, true, 14, none⟩,
    ⟨.call 32 [(.k (.int .i64 1)), (.k (.int .i64 2))], .push, (some ((.l 0), true)), false, 16, (some 4)⟩,
    ⟨.call 33 [(.k (.int .i64 1)), (.k (.int .i64 2))], .push, (some ((.l 1), true)), false, 17, (some 5)⟩,
    ⟨.bin .eql 42 false false (.l 1) (.l 0), .push, (some ((.l 2), true)), false, 18, none⟩,
    ⟨.pick (.l 3) (.l 0) (.k (.bool false)), .push, none, true, 19, none⟩,
    ⟨.call 34 [(.k (.str [109, 49]))], .push, (some ((.l 0), true)), false, 21, (some 6)⟩,
    ⟨.call 35 [(.k (.str [109, 49]))], .push, (some ((.l 1), true)), false, 22, (some 7)⟩,
    ⟨.bin .eql 42 false false (.l 1) (.l 0), .push, (some ((.l 2), true)), false, 23, none⟩,
    ⟨.pick (.l 3) (.l 0) (.k (.bool false)), .push, none, true, 24, none⟩,
    ⟨.call 36 [(.k (.sl 0 [] true)), (.k (.str [109, 49]))], .push, (some ((.l 0), true)), false, 26, (some 8)⟩,
    ⟨.len 32 (.l 0), .push, (some ((.l 1), true)), false, 27, none⟩,
    ⟨.bin .eql 3 false true (.l 0) (.k (.int .i64 0)), .push, (some ((.l 2), true)), false, 28, none⟩,
    ⟨.pick (.l 3) (.l 0) (.k (.bool false)), .push, none, true, 29, none⟩,
    ⟨.mv (.l 0), (.var 1), none, true, 30, none⟩]) .ret))), [.tmp (.v 1)]⟩
noncomputable def G31 (E : Env) : ZFn := ⟨34, [1, 0], fun cy Y fuel =>
  (zSeq (zReg fun k => (zDst (.var 1) (vMv (.k (.bool false)))) k)
  (zSeq (zReg fun k => (zStep E (cy Y) ⟨.buildSlice 32 3 [(0, (.k (.int .i64 0))), (1, (.k (.int .i64 1))), (2, (.k (.int .i64 2)))], .push, none, false, 0, (some 0)⟩) ((zCall (cy Y) 36 [(.l 0), (.k (.str [109, 49]))] .push) ((zDst (.var 0) (vMv (.l 0))) k)))
  (zSeq (zReg fun k => (zDst .push (vLenL (.v 0))) ((zDst .push (vInt E fEql .eql 3 false true (.l 0) (.k (.int .i64 3)))) ((zG (.l 0) true .push (zStep E (cy Y) ⟨.buildSlice 32 3 [(0, (.k (.int .i64 0))), (1, (.k (.int .i64 1))), (2, (.k (.int .i64 2)))], .push, none, false, 4, (some 0)⟩)) ((zG (.l 1) true .push (zCall (cy Y) 38 [(.l 0), (.k (.str [109, 49])), (.k (.int .i64 2))] .push)) ((zG (.l 2) true .push (zDst .push (vLenL (.l 0)))) ((zG (.l 3) true .push (zDst .push (vInt E fEql .eql 3 false true (.l 0) (.k (.int .i64 2))))) ((zDst .push (vPick (.l 4) (.l 0) (.k (.bool false)))) ((zG (.l 0) true .push (zStep E (cy Y) ⟨.buildSlice 32 1 [(0, (.k (.int .i64 0)))], .push, none, false, 10, (some 2)⟩)) ((zG (.l 1) true .push (zCall (cy Y) 38 [(.l 0), (.k (.str [109, 49])), (.k (.int .i64 2))] .push)) ((zG (.l 2) true .push (zDst .push (vLenL (.l 0)))) ((zG (.l 3) true .push (zDst .push (vInt E fEql .eql 3 false true (.l 0) (.k (.int .i64 1))))) ((zDst .push (vPick (.l 4) (.l 0) (.k (.bool false)))) ((zG (.l 0) true .push (zCall (cy Y) 32 [(.k (.int .i64 1)), (.k (.int .i64 2))] .push)) ((zG (.l 1) true .push (zCall (cy Y) 33 [(.k (.int .i64 1)), (.k (.int .i64 2))] .push)) ((zG (.l 2) true .push (zDst .push (vInt E fEql .eql 42 false false (.l 1) (.l 0)))) ((zDst .push (vPick (.l 3) (.l 0) (.k (.bool false)))) ((zG (.l 0) true .push (zCall (cy Y) 34 [(.k (.str [109, 49]))] .push)) ((zG (.l 1) true .push (zCall (cy Y) 35 [(.k (.str [109, 49]))] .push)) ((zG (.l 2) true .push (zDst .push (vInt E fEql .eql 42 false false (.l 1) (.l 0)))) ((zDst .push (vPick (.l 3) (.l 0) (.k (.bool false)))) ((zG (.l 0) true .push (zCall (cy Y) 36 [(.k (.sl 0 [] true)), (.k (.str [109, 49]))] .push)) ((zG (.l 1) true .push (zDst .push (vLenL (.l 0)))) ((zG (.l 2) true .push (zDst .push (vInt E fEql .eql 3 false true (.l 0) (.k (.int .i64 0))))) ((zDst .push (vPick (.l 3) (.l 0) (.k (.bool false)))) ((zDst (.var 1) (vMv (.l 0))) k)))))))))))))))))))))))))
  zRet))), [.tmp (.v 1)]⟩
theorem G31_ok (fn : Nat → Option Func) (pu : Nat → Bool) (pr : Nat → List AV → Option (Heap → Option (Eff × Acc))) : ZOk ⟨Try.tyT, fn, pu, pr⟩ npT F31 (G31 ⟨Try.tyT, fn, pu, pr⟩) := ⟨rfl, rfl, rfl, fun cy Y k => by kernel_rfl⟩
noncomputable def F32 : FFn := ⟨13, [0, 1, 4], (.seq (.reg [⟨.mv (.k (.int .u64 0)), (.var 2), none, true, 0, none⟩]) (.seq (.reg [⟨.call 67 [(.v 0)], .push, none, false, 1, (some 0)⟩,
    ⟨.bin .add 9 true false (.k (.str [110, 111, 100, 101])) (.l 0), .push, none, false, 2, none⟩,
    ⟨.call 67 [(.v 1)], .push, none, false, 4, (some 1)⟩,
    ⟨.bin .add 9 false false (.l 1) (.l 0), .push, none, false, 5, none⟩,
    ⟨.call 66 [(.l 0)], .push, none, false, 6, (some 2)⟩,
    ⟨.call 65 [(.l 0)], .push, none, false, 7, (some 3)⟩,
    ⟨.mv (.l 0), (.var 2), none, true, 8, none⟩]) .ret)), [.tmp (.v 2)]⟩
noncomputable def G32 (E : Env) : ZFn := ⟨13, [0, 1, 4], fun cy Y fuel =>
  (zSeq (zReg fun k => (zDst (.var 2) (vMv (.k (.int .u64 0)))) k)
  (zSeq (zReg fun k => (zCall (cy Y) 67 [(.v 0)] .push) ((zDst .push (vInt E fAdd .add 9 true false (.k (.str [110, 111, 100, 101])) (.l 0))) ((zCall (cy Y) 67 [(.v 1)] .push) ((zDst .push (vInt E fAdd .add 9 false false (.l 1) (.l 0))) ((zCall (cy Y) 66 [(.l 0)] .push) ((zCall (cy Y) 65 [(.l 0)] .push) ((zDst (.var 2) (vMv (.l 0))) k)))))))
  zRet)), [.tmp (.v 2)]⟩
theorem G32_ok (fn : Nat → Option Func) (pu : Nat → Bool) (pr : Nat → List AV → Option (Heap → Option (Eff × Acc))) : ZOk ⟨Try.tyT, fn, pu, pr⟩ npT F32 (G32 ⟨Try.tyT, fn, pu, pr⟩) := ⟨rfl, rfl, rfl, fun cy Y k => by kernel_rfl⟩
noncomputable def F33 : FFn := ⟨18, [0, 1, 4], (.seq (.reg [⟨.mv (.k (.int .u64 0)), (.var 2), none, true, 0, none⟩]) (.seq (.reg [⟨.most true [(.k (.int .i64 0)), (.v 0)], .push, none, false, 1, none⟩,
    ⟨.conv 3 42 (.l 0), .push, none, false, 2, none⟩,
    ⟨.call 70 [(.l 0)], .push, none, false, 3, (some 0)⟩,
    ⟨.bin .add 9 true false (.k (.str [110, 111, 100, 101])) (.l 0), .push, none, false, 4, none⟩,
    ⟨.most true [(.k (.int .i64 0)), (.v 1)], .push, none, false, 6, none⟩,
    ⟨.conv 3 42 (.l 0), .push, none, false, 7, none⟩,
    ⟨.call 70 [(.l 0)], .push, none, false, 8, (some 1)⟩,
    ⟨.bin .add 9 false false (.l 3) (.l 0), .push, none, false, 9, none⟩,
    ⟨.call 69 [(.l 0)], .push, none, false, 10, (some 2)⟩,
    ⟨.call 68 [(.l 0)], .push, none, false, 11, (some 3)⟩,
    ⟨.call 68 [(.l 0)], .push, none, false, 12, (some 4)⟩,
    ⟨.mv (.l 0), (.var 2), none, true, 13, none⟩]) .ret)), [.tmp (.v 2)]⟩
noncomputable def G33 (E : Env) : ZFn := ⟨18, [0, 1, 4], fun cy Y fuel =>
  (zSeq (zReg fun k => (zDst (.var 2) (vMv (.k (.int .u64 0)))) k)
  (zSeq (zReg fun k => (zStep E (cy Y) ⟨.most true [(.k (.int .i64 0)), (.v 0)], .push, none, false, 1, none⟩) ((zDst .push (vConv .u64 (.l 0))) ((zCall (cy Y) 70 [(.l 0)] .push) ((zDst .push (vInt E fAdd .add 9 true false (.k (.str [110, 111, 100, 101])) (.l 0))) ((zStep E (cy Y) ⟨.most true [(.k (.int .i64 0)), (.v 1)], .push, none, false, 6, none⟩) ((zDst .push (vConv .u64 (.l 0))) ((zCall (cy Y) 70 [(.l 0)] .push) ((zDst .push (vInt E fAdd .add 9 false false (.l 3) (.l 0))) ((zCall (cy Y) 69 [(.l 0)] .push) ((zCall (cy Y) 68 [(.l 0)] .push) ((zCall (cy Y) 68 [(.l 0)] .push) ((zDst (.var 2) (vMv (.l 0))) k))))))))))))
  zRet)), [.tmp (.v 2)]⟩
theorem G33_ok (fn : Nat → Option Func) (pu : Nat → Bool) (pr : Nat → List AV → Option (Heap → Option (Eff × Acc))) : ZOk ⟨Try.tyT, fn, pu, pr⟩ npT F33 (G33 ⟨Try.tyT, fn, pu, pr⟩) := ⟨rfl, rfl, rfl, fun cy Y k => by kernel_rfl⟩
noncomputable def F34 : FFn := ⟨7, [0, 2], (.seq (.reg [⟨.mv (.k (.int .u64 0)), (.var 1), none, true, 0, none⟩]) (.seq (.reg [⟨.bin .add 9 true false (.k (.str [107, 101, 121])) (.v 0), .push, none, false, 1, none⟩,
    ⟨.call 66 [(.l 0)], .push, none, false, 2, (some 0)⟩,
    ⟨.call 65 [(.l 0)], .push, none, false, 3, (some 1)⟩,
    ⟨.mv (.l 0), (.var 1), none, true, 4, none⟩]) .ret)), [.tmp (.v 1)]⟩
noncomputable def G34 (E : Env) : ZFn := ⟨7, [0, 2], fun cy Y fuel =>
  (zSeq (zReg fun k => (zDst (.var 1) (vMv (.k (.int .u64 0)))) k)
  (zSeq (zReg fun k => (zDst .push (vInt E fAdd .add 9 true false (.k (.str [107, 101, 121])) (.v 0))) ((zCall (cy Y) 66 [(.l 0)] .push) ((zCall (cy Y) 65 [(.l 0)] .push) ((zDst (.var 1) (vMv (.l 0))) k))))
  zRet)), [.tmp (.v 1)]⟩
theorem G34_ok (fn : Nat → Option Func) (pu : Nat → Bool) (pr : Nat → List AV → Option (Heap → Option (Eff × Acc))) : ZOk ⟨Try.tyT, fn, pu, pr⟩ npT F34 (G34 ⟨Try.tyT, fn, pu, pr⟩) := ⟨rfl, rfl, rfl, fun cy Y k => by kernel_rfl⟩
noncomputable def F35 : FFn := ⟨8, [0, 2], (.seq (.reg [⟨.mv (.k (.int .u64 0)), (.var 1), none, true, 0, none⟩]) (.seq (.reg [⟨.bin .add 9 true false (.k (.str [107, 101, 121])) (.v 0), .push, none, false, 1, none⟩,
    ⟨.call 69 [(.l 0)], .push, none, false, 2, (some 0)⟩,
    ⟨.call 68 [(.l 0)], .push, none, false, 3, (some 1)⟩,
    ⟨.call 68 [(.l 0)], .push, none, false, 4, (some 2)⟩,
    ⟨.mv (.l 0), (.var 1), none, true, 5, none⟩]) .ret)), [.tmp (.v 1)]⟩
noncomputable def G35 (E : Env) : ZFn := ⟨8, [0, 2], fun cy Y fuel =>
  (zSeq (zReg fun k => (zDst (.var 1) (vMv (.k (.int .u64 0)))) k)
  (zSeq (zReg fun k => (zDst .push (vInt E fAdd .add 9 true false (.k (.str [107, 101, 121])) (.v 0))) ((zCall (cy Y) 69 [(.l 0)] .push) ((zCall (cy Y) 68 [(.l 0)] .push) ((zCall (cy Y) 68 [(.l 0)] .push) ((zDst (.var 1) (vMv (.l 0))) k)))))
  zRet)), [.tmp (.v 1)]⟩
theorem G35_ok (fn : Nat → Option Func) (pu : Nat → Bool) (pr : Nat → List AV → Option (Heap → Option (Eff × Acc))) : ZOk ⟨Try.tyT, fn, pu, pr⟩ npT F35 (G35 ⟨Try.tyT, fn, pu, pr⟩) := ⟨rfl, rfl, rfl, fun cy Y k => by kernel_rfl⟩
noncomputable def F36 : FFn := ⟨18, [0, 1, 5, 4], (.seq (.reg [⟨.mv (.k (.sl 0 [] true)), (.var 3), none, true, 0, none⟩]) (.seq (.reg [⟨.alloc 32, (.var 2), none, false, 0, (some 0)⟩]) (.seq (.seq (.reg [⟨.call 34 [(.v 1)], .push, none, false, 2, (some 0)⟩,
    ⟨.call 72 [(.v 0), (.l 0)], .push, none, false, 3, (some 1)⟩,
    ⟨.call 71 [(.l 0)], .push, none, false, 4, (some 2)⟩]) (.block 0 (.range (.l 0) 0 [none, (some (.v 2)), none] [none, none, none, none, none, (some (.v 2)), none, none, none, none, none, none, none, none, none, none, none, none] [12] (codeAt [1, 1, 0, 1, 0, 0] (bodyOf Try.f36)) (codeAt [1, 1, 0, 1, 0, 1] (bodyOf Try.f36))))) (.seq (.reg [⟨.load 32 (.v 2), .push, none, true, 0, none⟩,
    ⟨.mv (.l 0), (.var 3), none, true, 1, none⟩]) .ret)))), [.tmp (.v 3)]⟩
noncomputable def G36 (E : Env) : ZFn := ⟨18, [0, 1, 5, 4], fun cy Y fuel =>
  (zSeq (zReg fun k => (zDst (.var 3) (vMv (.k (.sl 0 [] true)))) k)
  (zSeq (zReg fun k => (zStep E (cy Y) ⟨.alloc 32, (.var 2), none, false, 0, (some 0)⟩) k)
  (zSeq (zSeq (zReg fun k => (zCall (cy Y) 34 [(.v 1)] .push) ((zCall (cy Y) 72 [(.v 0), (.l 0)] .push) ((zCall (cy Y) 71 [(.l 0)] .push) k)))
  (zBlock 0 (zRange cy Y (.l 0) 0 [none, (some (.v 2)), none] [none, none, none, none, none, (some (.v 2)), none, none, none, none, none, none, none, none, none, none, none, none] [12] (codeAt [1, 1, 0, 1, 0, 0] (bodyOf Try.f36)) (codeAt [1, 1, 0, 1, 0, 1] (bodyOf Try.f36)))))
  (zSeq (zReg fun k => (zDstW .push (wLoad 1 false (.v 2))) ((zDst (.var 3) (vMv (.l 0))) k))
  zRet)))), [.tmp (.v 3)]⟩
theorem G36_ok (fn : Nat → Option Func) (pu : Nat → Bool) (pr : Nat → List AV → Option (Heap → Option (Eff × Acc))) : ZOk ⟨Try.tyT, fn, pu, pr⟩ npT F36 (G36 ⟨Try.tyT, fn, pu, pr⟩) := ⟨rfl, rfl, rfl, fun cy Y k => by kernel_rfl⟩
noncomputable def F37 : FFn := ⟨108, [1, 7, 0, 8, 6, 10, 5, 9, 12, 11, 4], (.seq (.reg [⟨.mv (.k (.sl 0 [] true)), (.var 10), none, true, 0, none⟩]) (.seq (.reg [⟨.mv (.k (.sl 0 [] true)), (.var 6), none, true, 0, none⟩]) (.seq (.reg [⟨.call 35 [(.v 0)], .push, none, false, 1, (some 0)⟩,
    ⟨.mv (.l 0), (.var 4), none, true, 2, none⟩]) (.seq (.seq (.reg [⟨.mv (.k (.int .i64 0)), (.var 1), none, true, 0, none⟩]) (.block 0 (.loop (.seq (.seq (.reg [⟨.len 32 (.v 2), .push, none, false, 2, none⟩,
    ⟨.bin .lss 3 false false (.v 1) (.l 0), .push, none, false, 3, none⟩]) (.cond (.l 0) .skip (.exit 0))) (.seq (.block 1 (.seq (.reg [⟨.mv (.k (.int .i64 0)), (.var 3), none, true, 0, none⟩]) (.block 2 (.loop (.seq (.seq (.reg [⟨.bin .lss 3 false true (.v 3) (.k (.int .i64 4)), .push, none, false, 1, none⟩]) (.cond (.l 0) .skip (.exit 2))) (.seq (.block 3 (.seq (.dreg 2 [0, 0, 3, 7, 0, 31, 0, 127, 0, 0, 768, 1792, 4095, 0, 16383] [⟨.indexAddr 32 (.v 2) (.v 1), .push, none, true, 2, none⟩,
    ⟨.load 3 (.l 0), .push, none, true, 3, none⟩,
    ⟨.call 33 [(.l 0), (.v 3)], .push, none, false, 5, (some 0)⟩,
    ⟨.bin .sub 42 false false (.l 0) (.v 4), .push, none, false, 7, none⟩,
    ⟨.indexAddr 32 (.v 2) (.v 1), .push, none, true, 10, none⟩,
    ⟨.load 3 (.l 0), .push, none, true, 11, none⟩,
    ⟨.build 86 [(0, (.l 2)), (1, (.l 0))], .push, none, false, 12, none⟩,
    ⟨.alloc 86, (.var 7), none, false, 13, (some 1)⟩,
    ⟨.store 86 (.v 7) (.l 0), .none, none, false, 14, none⟩]) (.seq (.reg [⟨.mv (.k (.int .i64 0)), (.var 5), none, true, 0, none⟩]) (.seq (.block 4 (.loop (.seq (.seq (.dreg 0 [0, 0, 2, 7, 15, 31, 31, 127, 255, 511, 31, 1055, 4095, 8191, 16383, 16383, 65535, 131071, 262143, 16383, 540671, 2097151, 4194303, 8388607, 8388607, 33554431, 67108863, 134217727, 8388607, 276824063, 1073741823, 2147483647, 4294967295, 8589934591] [⟨.len 84 (.v 6), .push, none, false, 2, none⟩,
    ⟨.bin .lss 3 false false (.v 5) (.l 0), .push, none, false, 3, none⟩,
    ⟨.mv (.v 6), .push, (some ((.l 0), true)), true, 5, none⟩,
    ⟨.mv (.v 5), .push, (some ((.l 1), true)), true, 6, none⟩,
    ⟨.indexAddr 84 (.l 1) (.l 0), .push, (some ((.l 2), true)), true, 7, none⟩,
    ⟨.fieldAddr 86 (.l 0) 0, .push, (some ((.l 3), true)), true, 8, none⟩,
    ⟨.load 42 (.l 0), .push, (some ((.l 4), true)), true, 9, none⟩,
    ⟨.fieldAddr 86 (.v 7) 0, .push, (some ((.l 5), true)), true, 10, none⟩,
    ⟨.load 42 (.l 0), .push, (some ((.l 6), true)), true, 11, none⟩,
    ⟨.bin .lss 42 false false (.l 2) (.l 0), .push, (some ((.l 7), true)), false, 12, none⟩,
    ⟨.mv (.l 0), .push, (some ((.l 8), true)), true, 13, none⟩,
    ⟨.mv (.v 6), .push, (some ((.l 0), false)), true, 14, none⟩,
    ⟨.mv (.v 5), .push, (some ((.l 1), false)), true, 15, none⟩,
    ⟨.indexAddr 84 (.l 1) (.l 0), .push, (some ((.l 2), false)), true, 16, none⟩,
    ⟨.fieldAddr 86 (.l 0) 0, .push, (some ((.l 3), false)), true, 17, none⟩,
    ⟨.load 42 (.l 0), .push, (some ((.l 4), false)), true, 18, none⟩,
    ⟨.fieldAddr 86 (.v 7) 0, .push, (some ((.l 5), false)), true, 19, none⟩,
    ⟨.load 42 (.l 0), .push, (some ((.l 6), false)), true, 20, none⟩,
    ⟨.bin .eql 42 false false (.l 2) (.l 0), .push, (some ((.l 7), false)), false, 21, none⟩,
    ⟨.mv (.l 0), .push, (some ((.l 8), false)), true, 22, none⟩,
    ⟨.mv (.v 6), .push, (some ((.l 0), true)), true, 23, none⟩,
    ⟨.mv (.v 5), .push, (some ((.l 1), true)), true, 24, none⟩,
    ⟨.indexAddr 84 (.l 1) (.l 0), .push, (some ((.l 2), true)), true, 25, none⟩,
    ⟨.fieldAddr 86 (.l 0) 1, .push, (some ((.l 3), true)), true, 26, none⟩,
    ⟨.load 3 (.l 0), .push, (some ((.l 4), true)), true, 27, none⟩,
    ⟨.fieldAddr 86 (.v 7) 1, .push, (some ((.l 5), true)), true, 28, none⟩,
    ⟨.load 3 (.l 0), .push, (some ((.l 6), true)), true, 29, none⟩,
    ⟨.bin .leq 3 false false (.l 2) (.l 0), .push, (some ((.l 7), true)), false, 30, none⟩,
    ⟨.pick (.l 8) (.l 0) (.k (.bool false)), .push, (some ((.l 17), false)), true, 31, none⟩,
    ⟨.pick (.l 18) (.k (.bool true)) (.l 0), .push, (some ((.l 27), true)), true, 32, none⟩,
    ⟨.pick (.l 28) (.l 0) (.k (.bool false)), .push, none, true, 33, none⟩]) (.cond (.l 0) .skip (.exit 4))) (.block 5 (.reg [⟨.mv (.v 5), .push, none, true, 0, none⟩,
    ⟨.bin .add 3 false true (.l 0) (.k (.int .i64 1)), .push, none, false, 1, none⟩,
    ⟨.mv (.l 0), (.var 5), none, true, 2, none⟩]))))) (.dreg 4 [0, 0, 3, 7, 0, 16, 63, 0, 0, 384, 1023, 2047] [⟨.mv (.v 6), .push, none, true, 0, none⟩,
    ⟨.slice 84 (.l 0) none (some (.v 5)) none, .push, none, false, 2, none⟩,
    ⟨.append 84 84 (.k (.sl 0 [] true)) (.l 0), .push, none, false, 3, (some 0)⟩,
    ⟨.load 86 (.v 7), .push, none, true, 4, none⟩,
    ⟨.buildSlice 84 1 [(0, (.l 0))], .push, none, false, 5, (some 1)⟩,
    ⟨.append 84 84 (.l 2) (.l 0), .push, none, false, 6, (some 2)⟩,
    ⟨.mv (.v 6), .push, none, true, 7, none⟩,
    ⟨.slice 84 (.l 0) (some (.v 5)) none none, .push, none, false, 9, none⟩,
    ⟨.append 84 84 (.l 2) (.l 0), .push, none, false, 10, (some 3)⟩,
    ⟨.mv (.l 0), (.var 6), none, true, 11, none⟩]))))) (.reg [⟨.mv (.v 3), .push, none, true, 0, none⟩,
    ⟨.bin .add 3 false true (.l 0) (.k (.int .i64 1)), .push, none, false, 1, none⟩,
    ⟨.mv (.l 0), (.var 3), none, true, 2, none⟩]))))))) (.reg [⟨.mv (.v 1), .push, none, true, 0, none⟩,
    ⟨.bin .add 3 false true (.l 0) (.k (.int .i64 1)), .push, none, false, 1, none⟩,
    ⟨.mv (.l 0), (.var 1), none, true, 2, none⟩])))))) (.seq (.reg [⟨.mv (.k (.sl 0 [] true)), (.var 9), none, true, 0, none⟩]) (.seq (.seq (.reg [⟨.mv (.k (.int .i64 0)), (.var 8), none, true, 0, none⟩]) (.block 6 (.loop (.seq (.seq (.reg [⟨.len 84 (.v 6), .push, none, false, 2, none⟩,
    ⟨.bin .lss 3 false false (.v 8) (.l 0), .push, none, false, 3, none⟩]) (.cond (.l 0) .skip (.exit 6))) (.seq (.block 7 (.seq (.reg [⟨.indexAddr 84 (.v 6) (.v 8), .push, none, true, 3, none⟩,
    ⟨.fieldAddr 86 (.l 0) 1, .push, none, true, 4, none⟩,
    ⟨.load 3 (.l 0), .push, none, true, 5, none⟩,
    ⟨.call 30 [(.v 9), (.l 0)], .push, none, false, 6, (some 0)⟩,
    ⟨.un .not (.l 0), .push, none, false, 7, none⟩]) (.cond (.l 0) (.reg [⟨.mv (.v 9), .push, none, true, 0, none⟩,
    ⟨.indexAddr 84 (.v 6) (.v 8), .push, none, true, 3, none⟩,
    ⟨.fieldAddr 86 (.l 0) 1, .push, none, true, 4, none⟩,
    ⟨.load 3 (.l 0), .push, none, true, 5, none⟩,
    ⟨.buildSlice 32 1 [(0, (.l 0))], .push, none, false, 6, (some 0)⟩,
    ⟨.append 32 32 (.l 4) (.l 0), .push, none, false, 7, (some 1)⟩,
    ⟨.mv (.l 0), (.var 9), none, true, 8, none⟩]) .skip))) (.reg [⟨.mv (.v 8), .push, none, true, 0, none⟩,
    ⟨.bin .add 3 false true (.l 0) (.k (.int .i64 1)), .push, none, false, 1, none⟩,
    ⟨.mv (.l 0), (.var 8), none, true, 2, none⟩])))))) (.seq (.reg [⟨.mv (.v 9), (.var 10), none, true, 1, none⟩]) .ret))))))), [.tmp (.v 10)]⟩
noncomputable def G37 (E : Env) : ZFn := ⟨108, [1, 7, 0, 8, 6, 10, 5, 9, 12, 11, 4], fun cy Y fuel =>
  (zSeq (zReg fun k => (zDst (.var 10) (vMv (.k (.sl 0 [] true)))) k)
  (zSeq (zReg fun k => (zDst (.var 6) (vMv (.k (.sl 0 [] true)))) k)
  (zSeq (zReg fun k => (zCall (cy Y) 35 [(.v 0)] .push) ((zDst (.var 4) (vMv (.l 0))) k))
  (zSeq (zSeq (zReg fun k => (zDst (.var 1) (vMv (.k (.int .i64 0)))) k)
  (zBlock 0 (zLoop fuel (zSeq (zSeq (zReg fun k => (zDst .push (vLenL (.v 2))) ((zDst .push (vInt E fLss .lss 3 false false (.v 1) (.l 0))) k))
  (zCond (.l 0) zSkip (zExit 0)))
  (zSeq (zBlock 1 (zSeq (zReg fun k => (zDst (.var 3) (vMv (.k (.int .i64 0)))) k)
  (zBlock 2 (zLoop fuel (zSeq (zSeq (zReg fun k => (zDst .push (vInt E fLss .lss 3 false true (.v 3) (.k (.int .i64 4)))) k)
  (zCond (.l 0) zSkip (zExit 2)))
  (zSeq (zBlock 3 (zSeq (zDreg 2 fun n0 k => (fun k sp => zDst .push (vIndexAddr 1 (.v 2) (.v 1)) (k sp)) ((zDstWD [0, 0, 3, 7, 0, 31, 0, 127, 0, 0, 768, 1792, 4095, 0, 16383] 3 .push (wLoad 1 false (.l 0))) ((zCallD (cy Y) [0, 0, 3, 7, 0, 31, 0, 127, 0, 0, 768, 1792, 4095, 0, 16383] 5 33 [(.l 0), (.v 3)] .push) ((fun k sp => zDst .push (vInt E fSub .sub 42 false false (.l 0) (.v 4)) (k sp)) ((fun k sp => zDst .push (vIndexAddr 1 (.v 2) (.v 1)) (k sp)) ((zDstWD [0, 0, 3, 7, 0, 31, 0, 127, 0, 0, 768, 1792, 4095, 0, 16383] 11 .push (wLoad 1 false (.l 0))) ((zStepD E (cy Y) [0, 0, 3, 7, 0, 31, 0, 127, 0, 0, 768, 1792, 4095, 0, 16383] n0 ⟨.build 86 [(0, (.l 2)), (1, (.l 0))], .push, none, false, 12, none⟩) ((zStepD E (cy Y) [0, 0, 3, 7, 0, 31, 0, 127, 0, 0, 768, 1792, 4095, 0, 16383] n0 ⟨.alloc 86, (.var 7), none, false, 13, (some 1)⟩) ((zStepD E (cy Y) [0, 0, 3, 7, 0, 31, 0, 127, 0, 0, 768, 1792, 4095, 0, 16383] n0 ⟨.store 86 (.v 7) (.l 0), .none, none, false, 14, none⟩) k)))))))))
  (zSeq (zReg fun k => (zDst (.var 5) (vMv (.k (.int .i64 0)))) k)
  (zSeq (zBlock 4 (zLoop fuel (zSeq (zSeq (zDreg 0 fun n0 k => (fun k sp => zDst .push (vLenL (.v 6)) (k sp)) ((fun k sp => zDst .push (vInt E fLss .lss 3 false false (.v 5) (.l 0)) (k sp)) ((zGD (.l 0) true .push (fun k sp => zDst .push (vMv (.v 6)) (k sp))) ((zGD (.l 1) true .push (fun k sp => zDst .push (vMv (.v 5)) (k sp))) ((zGD (.l 2) true .push (fun k sp => zDst .push (vIndexAddr 2 (.l 1) (.l 0)) (k sp))) ((zGD (.l 3) true .push (fun k sp => zDst .push (vFieldAddr 0 (.l 0)) (k sp))) ((zGD (.l 4) true .push (zDstWD [0, 0, 2, 7, 15, 31, 31, 127, 255, 511, 31, 1055, 4095, 8191, 16383, 16383, 65535, 131071, 262143, 16383, 540671, 2097151, 4194303, 8388607, 8388607, 33554431, 67108863, 134217727, 8388607, 276824063, 1073741823, 2147483647, 4294967295, 8589934591] 9 .push (wLoad 1 false (.l 0)))) ((zGD (.l 5) true .push (fun k sp => zDst .push (vFieldAddr 0 (.v 7)) (k sp))) ((zGD (.l 6) true .push (zDstWD [0, 0, 2, 7, 15, 31, 31, 127, 255, 511, 31, 1055, 4095, 8191, 16383, 16383, 65535, 131071, 262143, 16383, 540671, 2097151, 4194303, 8388607, 8388607, 33554431, 67108863, 134217727, 8388607, 276824063, 1073741823, 2147483647, 4294967295, 8589934591] 11 .push (wLoad 1 false (.l 0)))) ((zGD (.l 7) true .push (fun k sp => zDst .push (vInt E fLss .lss 42 false false (.l 2) (.l 0)) (k sp))) ((zGD (.l 8) true .push (fun k sp => zDst .push (vMv (.l 0)) (k sp))) ((zGD (.l 0) false .push (fun k sp => zDst .push (vMv (.v 6)) (k sp))) ((zGD (.l 1) false .push (fun k sp => zDst .push (vMv (.v 5)) (k sp))) ((zGD (.l 2) false .push (fun k sp => zDst .push (vIndexAddr 2 (.l 1) (.l 0)) (k sp))) ((zGD (.l 3) false .push (fun k sp => zDst .push (vFieldAddr 0 (.l 0)) (k sp))) ((zGD (.l 4) false .push (zDstWD [0, 0, 2, 7, 15, 31, 31, 127, 255, 511, 31, 1055, 4095, 8191, 16383, 16383, 65535, 131071, 262143, 16383, 540671, 2097151, 4194303, 8388607, 8388607, 33554431, 67108863, 134217727, 8388607, 276824063, 1073741823, 2147483647, 4294967295, 8589934591] 18 .push (wLoad 1 false (.l 0)))) ((zGD (.l 5) false .push (fun k sp => zDst .push (vFieldAddr 0 (.v 7)) (k sp))) ((zGD (.l 6) false .push (zDstWD [0, 0, 2, 7, 15, 31, 31, 127, 255, 511, 31, 1055, 4095, 8191, 16383, 16383, 65535, 131071, 262143, 16383, 540671, 2097151, 4194303, 8388607, 8388607, 33554431, 67108863, 134217727, 8388607, 276824063, 1073741823, 2147483647, 4294967295, 8589934591] 20 .push (wLoad 1 false (.l 0)))) ((zGD (.l 7) false .push (fun k sp => zDst .push (vInt E fEql .eql 42 false false (.l 2) (.l 0)) (k sp))) ((zGD (.l 8) false .push (fun k sp => zDst .push (vMv (.l 0)) (k sp))) ((zGD (.l 0) true .push (fun k sp => zDst .push (vMv (.v 6)) (k sp))) ((zGD (.l 1) true .push (fun k sp => zDst .push (vMv (.v 5)) (k sp))) ((zGD (.l 2) true .push (fun k sp => zDst .push (vIndexAddr 2 (.l 1) (.l 0)) (k sp))) ((zGD (.l 3) true .push (fun k sp => zDst .push (vFieldAddr 1 (.l 0)) (k sp))) ((zGD (.l 4) true .push (zDstWD [0, 0, 2, 7, 15, 31, 31, 127, 255, 511, 31, 1055, 4095, 8191, 16383, 16383, 65535, 131071, 262143, 16383, 540671, 2097151, 4194303, 8388607, 8388607, 33554431, 67108863, 134217727, 8388607, 276824063, 1073741823, 2147483647, 4294967295, 8589934591] 27 .push (wLoad 1 false (.l 0)))) ((zGD (.l 5) true .push (fun k sp => zDst .push (vFieldAddr 1 (.v 7)) (k sp))) ((zGD (.l 6) true .push (zDstWD [0, 0, 2, 7, 15, 31, 31, 127, 255, 511, 31, 1055, 4095, 8191, 16383, 16383, 65535, 131071, 262143, 16383, 540671, 2097151, 4194303, 8388607, 8388607, 33554431, 67108863, 134217727, 8388607, 276824063, 1073741823, 2147483647, 4294967295, 8589934591] 29 .push (wLoad 1 false (.l 0)))) ((zGD (.l 7) true .push (fun k sp => zDst .push (vInt E (fGen .leq) .leq 3 false false (.l 2) (.l 0)) (k sp))) ((zGD (.l 17) false .push (fun k sp => zDst .push (vPick (.l 8) (.l 0) (.k (.bool false))) (k sp))) ((zGD (.l 27) true .push (fun k sp => zDst .push (vPick (.l 18) (.k (.bool true)) (.l 0)) (k sp))) ((fun k sp => zDst .push (vPick (.l 28) (.l 0) (.k (.bool false))) (k sp)) k)))))))))))))))))))))))))))))))
  (zCond (.l 0) zSkip (zExit 4)))
  (zBlock 5 (zReg fun k => (zDst .push (vMv (.v 5))) ((zDst .push (vInt E fAdd .add 3 false true (.l 0) (.k (.int .i64 1)))) ((zDst (.var 5) (vMv (.l 0))) k)))))))
  (zDreg 4 fun n0 k => (fun k sp => zDst .push (vMv (.v 6)) (k sp)) ((zStepD E (cy Y) [0, 0, 3, 7, 0, 16, 63, 0, 0, 384, 1023, 2047] n0 ⟨.slice 84 (.l 0) none (some (.v 5)) none, .push, none, false, 2, none⟩) ((zStepD E (cy Y) [0, 0, 3, 7, 0, 16, 63, 0, 0, 384, 1023, 2047] n0 ⟨.append 84 84 (.k (.sl 0 [] true)) (.l 0), .push, none, false, 3, (some 0)⟩) ((zDstWD [0, 0, 3, 7, 0, 16, 63, 0, 0, 384, 1023, 2047] 4 .push (wLoad 2 true (.v 7))) ((zStepD E (cy Y) [0, 0, 3, 7, 0, 16, 63, 0, 0, 384, 1023, 2047] n0 ⟨.buildSlice 84 1 [(0, (.l 0))], .push, none, false, 5, (some 1)⟩) ((zStepD E (cy Y) [0, 0, 3, 7, 0, 16, 63, 0, 0, 384, 1023, 2047] n0 ⟨.append 84 84 (.l 2) (.l 0), .push, none, false, 6, (some 2)⟩) ((fun k sp => zDst .push (vMv (.v 6)) (k sp)) ((zStepD E (cy Y) [0, 0, 3, 7, 0, 16, 63, 0, 0, 384, 1023, 2047] n0 ⟨.slice 84 (.l 0) (some (.v 5)) none none, .push, none, false, 9, none⟩) ((zStepD E (cy Y) [0, 0, 3, 7, 0, 16, 63, 0, 0, 384, 1023, 2047] n0 ⟨.append 84 84 (.l 2) (.l 0), .push, none, false, 10, (some 3)⟩) ((fun k sp => zDst (.var 6) (vMv (.l 0)) (k sp)) k))))))))))))))
  (zReg fun k => (zDst .push (vMv (.v 3))) ((zDst .push (vInt E fAdd .add 3 false true (.l 0) (.k (.int .i64 1)))) ((zDst (.var 3) (vMv (.l 0))) k)))))))))
  (zReg fun k => (zDst .push (vMv (.v 1))) ((zDst .push (vInt E fAdd .add 3 false true (.l 0) (.k (.int .i64 1)))) ((zDst (.var 1) (vMv (.l 0))) k))))))))
  (zSeq (zReg fun k => (zDst (.var 9) (vMv (.k (.sl 0 [] true)))) k)
  (zSeq (zSeq (zReg fun k => (zDst (.var 8) (vMv (.k (.int .i64 0)))) k)
  (zBlock 6 (zLoop fuel (zSeq (zSeq (zReg fun k => (zDst .push (vLenL (.v 6))) ((zDst .push (vInt E fLss .lss 3 false false (.v 8) (.l 0))) k))
  (zCond (.l 0) zSkip (zExit 6)))
  (zSeq (zBlock 7 (zSeq (zReg fun k => (zDst .push (vIndexAddr 2 (.v 6) (.v 8))) ((zDst .push (vFieldAddr 1 (.l 0))) ((zDstW .push (wLoad 1 false (.l 0))) ((zCall (cy Y) 30 [(.v 9), (.l 0)] .push) ((zDst .push (vNot (.l 0))) k)))))
  (zCond (.l 0) (zReg fun k => (zDst .push (vMv (.v 9))) ((zDst .push (vIndexAddr 2 (.v 6) (.v 8))) ((zDst .push (vFieldAddr 1 (.l 0))) ((zDstW .push (wLoad 1 false (.l 0))) ((zStep E (cy Y) ⟨.buildSlice 32 1 [(0, (.l 0))], .push, none, false, 6, (some 0)⟩) ((zStep E (cy Y) ⟨.append 32 32 (.l 4) (.l 0), .push, none, false, 7, (some 1)⟩) ((zDst (.var 9) (vMv (.l 0))) k))))))) zSkip)))
  (zReg fun k => (zDst .push (vMv (.v 8))) ((zDst .push (vInt E fAdd .add 3 false true (.l 0) (.k (.int .i64 1)))) ((zDst (.var 8) (vMv (.l 0))) k))))))))
  (zSeq (zReg fun k => (zDst (.var 10) (vMv (.v 9))) k)
  zRet))))))), [.tmp (.v 10)]⟩
theorem G37_ok (fn : Nat → Option Func) (pu : Nat → Bool) (pr : Nat → List AV → Option (Heap → Option (Eff × Acc))) : ZOk ⟨Try.tyT, fn, pu, pr⟩ npT F37 (G37 ⟨Try.tyT, fn, pu, pr⟩) := ⟨rfl, rfl, rfl, fun cy Y k => by kernel_rfl⟩
noncomputable def F38 : FFn := ⟨18, [0, 1, 7, 2, 6], (.seq (.reg [⟨.mv (.k (.sl 0 [] true)), (.var 4), none, true, 0, none⟩]) (.seq (.reg [⟨.call 36 [(.v 0), (.v 1)], .push, none, false, 2, (some 0)⟩,
    ⟨.mv (.l 0), (.var 2), none, true, 3, none⟩]) (.seq (.reg [⟨.most true [(.v 3), (.k (.int .i64 0))], .push, none, false, 2, none⟩,
    ⟨.len 32 (.v 2), .push, none, false, 4, none⟩,
    ⟨.most false [(.l 1), (.l 0)], .push, none, false, 5, none⟩,
    ⟨.slice 32 (.v 2) none (some (.l 0)) none, .push, none, false, 6, none⟩,
    ⟨.mv (.l 0), (.var 4), none, true, 7, none⟩]) .ret))), [.tmp (.v 4)]⟩
noncomputable def G38 (E : Env) : ZFn := ⟨18, [0, 1, 7, 2, 6], fun cy Y fuel =>
  (zSeq (zReg fun k => (zDst (.var 4) (vMv (.k (.sl 0 [] true)))) k)
  (zSeq (zReg fun k => (zCall (cy Y) 36 [(.v 0), (.v 1)] .push) ((zDst (.var 2) (vMv (.l 0))) k))
  (zSeq (zReg fun k => (zStep E (cy Y) ⟨.most true [(.v 3), (.k (.int .i64 0))], .push, none, false, 2, none⟩) ((zDst .push (vLenL (.v 2))) ((zStep E (cy Y) ⟨.most false [(.l 1), (.l 0)], .push, none, false, 5, none⟩) ((zStep E (cy Y) ⟨.slice 32 (.v 2) none (some (.l 0)) none, .push, none, false, 6, none⟩) ((zDst (.var 4) (vMv (.l 0))) k)))))
  zRet))), [.tmp (.v 4)]⟩
theorem G38_ok (fn : Nat → Option Func) (pu : Nat → Bool) (pr : Nat → List AV → Option (Heap → Option (Eff × Acc))) : ZOk ⟨Try.tyT, fn, pu, pr⟩ npT F38 (G38 ⟨Try.tyT, fn, pu, pr⟩) := ⟨rfl, rfl, rfl, fun cy Y k => by kernel_rfl⟩
noncomputable def F39 : FFn := ⟨18, [0, 1, 7, 2, 6], (.seq (.reg [⟨.mv (.k (.sl 0 [] true)), (.var 4), none, true, 0, none⟩]) (.seq (.reg [⟨.call 37 [(.v 0), (.v 1)], .push, none, false, 2, (some 0)⟩,
    ⟨.mv (.l 0), (.var 2), none, true, 3, none⟩]) (.seq (.reg [⟨.len 32 (.v 2), .push, none, false, 3, none⟩,
    ⟨.most false [(.v 3), (.l 0)], .push, none, false, 4, none⟩,
    ⟨.most true [(.k (.int .i64 0)), (.l 0)], .push, none, false, 5, none⟩,
    ⟨.slice 32 (.v 2) none (some (.l 0)) none, .push, none, false, 6, none⟩,
    ⟨.mv (.l 0), (.var 4), none, true, 7, none⟩]) .ret))), [.tmp (.v 4)]⟩
noncomputable def G39 (E : Env) : ZFn := ⟨18, [0, 1, 7, 2, 6], fun cy Y fuel =>
  (zSeq (zReg fun k => (zDst (.var 4) (vMv (.k (.sl 0 [] true)))) k)
  (zSeq (zReg fun k => (zCall (cy Y) 37 [(.v 0), (.v 1)] .push) ((zDst (.var 2) (vMv (.l 0))) k))
  (zSeq (zReg fun k => (zDst .push (vLenL (.v 2))) ((zStep E (cy Y) ⟨.most false [(.v 3), (.l 0)], .push, none, false, 4, none⟩) ((zStep E (cy Y) ⟨.most true [(.k (.int .i64 0)), (.l 0)], .push, none, false, 5, none⟩) ((zStep E (cy Y) ⟨.slice 32 (.v 2) none (some (.l 0)) none, .push, none, false, 6, none⟩) ((zDst (.var 4) (vMv (.l 0))) k)))))
  zRet))), [.tmp (.v 4)]⟩
theorem G39_ok (fn : Nat → Option Func) (pu : Nat → Bool) (pr : Nat → List AV → Option (Heap → Option (Eff × Acc))) : ZOk ⟨Try.tyT, fn, pu, pr⟩ npT F39 (G39 ⟨Try.tyT, fn, pu, pr⟩) := ⟨rfl, rfl, rfl, fun cy Y k => by kernel_rfl⟩
noncomputable def F40 : FFn := ⟨36, [1, 2, 0], (.seq (.reg [⟨.mv (.k (.bool false)), (.var 2), none, true, 0, none⟩]) (.seq (.reg [⟨.call 17 [(.k (.int .i64 3))], .push, none, false, 0, (some 0)⟩,
    ⟨.alloc 25, (.var 0), none, false, 1, (some 1)⟩,
    ⟨.store 25 (.v 0) (.l 0), .none, none, false, 2, none⟩]) (.seq (.reg [⟨.load 25 (.v 0), .push, none, true, 0, none⟩,
    ⟨.call 41 [(.l 0), (.k (.str [109, 49]))], .push, none, false, 1, (some 0)⟩,
    ⟨.mv (.l 0), (.var 1), none, true, 2, none⟩]) (.seq (.dreg 4 [0, 1, 3, 7, 15, 15, 47, 111, 255, 511, 1023, 2047, 4095, 8191, 16383, 32767, 65535, 131071, 131071, 524287, 1048575, 2097151, 4194303, 8388607, 16777215, 16777215, 67108863, 134217727, 268435455, 536870911, 1073741823] [⟨.len 32 (.v 1), .push, none, false, 1, none⟩,
    ⟨.bin .eql 3 false true (.l 0) (.k (.int .i64 2)), .push, none, false, 2, none⟩,
    ⟨.load 25 (.v 0), .push, (some ((.l 0), true)), true, 4, none⟩,
    ⟨.mv (.v 1), .push, (some ((.l 1), true)), true, 5, none⟩,
    ⟨.indexAddr 32 (.l 0) (.k (.int .i64 0)), .push, (some ((.l 2), true)), true, 6, none⟩,
    ⟨.load 3 (.l 0), .push, (some ((.l 3), true)), true, 7, none⟩,
    ⟨.call 43 [(.l 3), (.l 0), (.k (.str [109, 49]))], .push, (some ((.l 4), true)), false, 8, (some 0)⟩,
    ⟨.pick (.l 5) (.l 0) (.k (.bool false)), .push, none, true, 9, none⟩,
    ⟨.build 25 [], .push, (some ((.l 0), true)), false, 11, none⟩,
    ⟨.call 41 [(.l 0), (.k (.str [109, 49]))], .push, (some ((.l 1), true)), false, 12, (some 1)⟩,
    ⟨.len 32 (.l 0), .push, (some ((.l 2), true)), false, 13, none⟩,
    ⟨.bin .eql 3 false true (.l 0) (.k (.int .i64 0)), .push, (some ((.l 3), true)), false, 14, none⟩,
    ⟨.pick (.l 4) (.l 0) (.k (.bool false)), .push, none, true, 15, none⟩,
    ⟨.load 25 (.v 0), .push, (some ((.l 0), true)), true, 17, none⟩,
    ⟨.load 25 (.v 0), .push, (some ((.l 1), true)), true, 18, none⟩,
    ⟨.call 45 [(.l 1), (.l 0), (.k (.str [109, 49]))], .push, (some ((.l 2), true)), false, 19, (some 2)⟩,
    ⟨.len 32 (.l 0), .push, (some ((.l 3), true)), false, 20, none⟩,
    ⟨.bin .eql 3 false true (.l 0) (.k (.int .i64 0)), .push, (some ((.l 4), true)), false, 21, none⟩,
    ⟨.pick (.l 5) (.l 0) (.k (.bool false)), .push, none, true, 22, none⟩,
    ⟨.build 25 [], .push, (some ((.l 0), true)), false, 24, none⟩,
    ⟨.load 25 (.v 0), .push, (some ((.l 1), true)), true, 25, none⟩,
    ⟨.call 45 [(.l 1), (.l 0), (.k (.str [109, 49]))], .push, (some ((.l 2), true)), false, 26, (some 3)⟩,
    ⟨.len 32 (.l 0), .push, (some ((.l 3), true)), false, 27, none⟩,
    ⟨.bin .eql 3 false true (.l 0) (.k (.int .i64 2)), .push, (some ((.l 4), true)), false, 28, none⟩,
    ⟨.pick (.l 5) (.l 0) (.k (.bool false)), .push, none, true, 29, none⟩,
    ⟨.mv (.l 0), (.var 2), none, true, 30, none⟩]) .ret)))), [.tmp (.v 2)]⟩
noncomputable def G40 (E : Env) : ZFn := ⟨36, [1, 2, 0], fun cy Y fuel =>
  (zSeq (zReg fun k => (zDst (.var 2) (vMv (.k (.bool false)))) k)
  (zSeq (zReg fun k => (zCall (cy Y) 17 [(.k (.int .i64 3))] .push) ((zStep E (cy Y) ⟨.alloc 25, (.var 0), none, false, 1, (some 1)⟩) ((zStep E (cy Y) ⟨.store 25 (.v 0) (.l 0), .none, none, false, 2, none⟩) k)))
  (zSeq (zReg fun k => (zDstW .push (wLoad 2 true (.v 0))) ((zCall (cy Y) 41 [(.l 0), (.k (.str [109, 49]))] .push) ((zDst (.var 1) (vMv (.l 0))) k)))
  (zSeq (zDreg 4 fun n0 k => (fun k sp => zDst .push (vLenL (.v 1)) (k sp)) ((fun k sp => zDst .push (vInt E fEql .eql 3 false true (.l 0) (.k (.int .i64 2))) (k sp)) ((zGD (.l 0) true .push (zDstWD [0, 1, 3, 7, 15, 15, 47, 111, 255, 511, 1023, 2047, 4095, 8191, 16383, 32767, 65535, 131071, 131071, 524287, 1048575, 2097151, 4194303, 8388607, 16777215, 16777215, 67108863, 134217727, 268435455, 536870911, 1073741823] 4 .push (wLoad 2 true (.v 0)))) ((zGD (.l 1) true .push (fun k sp => zDst .push (vMv (.v 1)) (k sp))) ((zGD (.l 2) true .push (fun k sp => zDst .push (vIndexAddr 1 (.l 0) (.k (.int .i64 0))) (k sp))) ((zGD (.l 3) true .push (zDstWD [0, 1, 3, 7, 15, 15, 47, 111, 255, 511, 1023, 2047, 4095, 8191, 16383, 32767, 65535, 131071, 131071, 524287, 1048575, 2097151, 4194303, 8388607, 16777215, 16777215, 67108863, 134217727, 268435455, 536870911, 1073741823] 7 .push (wLoad 1 false (.l 0)))) ((zGD (.l 4) true .push (zCallD (cy Y) [0, 1, 3, 7, 15, 15, 47, 111, 255, 511, 1023, 2047, 4095, 8191, 16383, 32767, 65535, 131071, 131071, 524287, 1048575, 2097151, 4194303, 8388607, 16777215, 16777215, 67108863, 134217727, 268435455, 536870911, 1073741823] 8 43 [(.l 3), (.l 0), (.k (.str [109, 49]))] .push)) ((fun k sp => zDst .push (vPick (.l 5) (.l 0) (.k (.bool false))) (k sp)) ((zGD (.l 0) true .push (zStepD E (cy Y) [0, 1, 3, 7, 15, 15, 47, 111, 255, 511, 1023, 2047, 4095, 8191, 16383, 32767, 65535, 131071, 131071, 524287, 1048575, 2097151, 4194303, 8388607, 16777215, 16777215, 67108863, 134217727, 268435455, 536870911, 1073741823] n0 ⟨.build 25 [], .push, none, false, 11, none⟩)) ((zGD (.l 1) true .push (zCallD (cy Y) [0, 1, 3, 7, 15, 15, 47, 111, 255, 511, 1023, 2047, 4095, 8191, 16383, 32767, 65535, 131071, 131071, 524287, 1048575, 2097151, 4194303, 8388607, 16777215, 16777215, 67108863, 134217727, 268435455, 536870911, 1073741823] 12 41 [(.l 0), (.k (.str [109, 49]))] .push)) ((zGD (.l 2) true .push (fun k sp => zDst .push (vLenL (.l 0)) (k sp))) ((zGD (.l 3) true .push (fun k sp => zDst .push (vInt E fEql .eql 3 false true (.l 0) (.k (.int .i64 0))) (k sp))) ((fun k sp => zDst .push (vPick (.l 4) (.l 0) (.k (.bool false))) (k sp)) ((zGD (.l 0) true .push (zDstWD [0, 1, 3, 7, 15, 15, 47, 111, 255, 511, 1023, 2047, 4095, 8191, 16383, 32767, 65535, 131071, 131071, 524287, 1048575, 2097151, 4194303, 8388607, 16777215, 16777215, 67108863, 134217727, 268435455, 536870911, 1073741823] 17 .push (wLoad 2 true (.v 0)))) ((zGD (.l 1) true .push (zDstWD [0, 1, 3, 7, 15, 15, 47, 111, 255, 511, 1023, 2047, 4095, 8191, 16383, 32767, 65535, 131071, 131071, 524287, 1048575, 2097151, 4194303, 8388607, 16777215, 16777215, 67108863, 134217727, 268435455, 536870911, 1073741823] 18 .push (wLoad 2 true (.v 0)))) ((zGD (.l 2) true .push (zCallD (cy Y) [0, 1, 3, 7, 15, 15, 47, 111, 255, 511, 1023, 2047, 4095, 8191, 16383, 32767, 65535, 131071, 131071, 524287, 1048575, 2097151, 4194303, 8388607, 16777215, 16777215, 67108863, 134217727, 268435455, 536870911, 1073741823] 19 45 [(.l 1), (.l 0), (.k (.str [109, 49]))] .push)) ((zGD (.l 3) true .push (fun k sp => zDst .push (vLenL (.l 0)) (k sp))) ((zGD (.l 4) true .push (fun k sp => zDst .push (vInt E fEql .eql 3 false true (.l 0) (.k (.int .i64 0))) (k sp))) ((fun k sp => zDst .push (vPick (.l 5) (.l 0) (.k (.bool false))) (k sp)) ((zGD (.l 0) true .push (zStepD E (cy Y) [0, 1, 3, 7, 15, 15, 47, 111, 255, 511, 1023, 2047, 4095, 8191, 16383, 32767, 65535, 131071, 131071, 524287, 1048575, 2097151, 4194303, 8388607, 16777215, 16777215, 67108863, 134217727, 268435455, 536870911, 1073741823] n0 ⟨.build 25 [], .push, none, false, 24, none⟩)) ((zGD (.l 1) true .push (zDstWD [0, 1, 3, 7, 15, 15, 47, 111, 255, 511, 1023, 2047, 4095, 8191, 16383, 32767, 65535, 131071, 131071, 524287, 1048575, 2097151, 4194303, 8388607, 16777215, 16777215, 67108863, 134217727, 268435455, 536870911, 1073741823] 25 .push (wLoad 2 true (.v 0)))) ((zGD (.l 2) true .push (zCallD (cy Y) [0, 1, 3, 7, 15, 15, 47, 111, 255, 511, 1023, 2047, 4095, 8191, 16383, 32767, 65535, 131071, 131071, 524287, 1048575, 2097151, 4194303, 8388607, 16777215, 16777215, 67108863, 134217727, 268435455, 536870911, 1073741823] 26 45 [(.l 1), (.l 0), (.k (.str [109, 49]))] .push)) ((zGD (.l 3) true .push (fun k sp => zDst .push (vLenL (.l 0)) (k sp))) ((zGD (.l 4) true .push (fun k sp => zDst .push (vInt E fEql .eql 3 false true (.l 0) (.k (.int .i64 2))) (k sp))) ((fun k sp => zDst .push (vPick (.l 5) (.l 0) (.k (.bool false))) (k sp)) ((fun k sp => zDst (.var 2) (vMv (.l 0)) (k sp)) k))))))))))))))))))))))))))
  zRet)))), [.tmp (.v 2)]⟩
theorem G40_ok (fn : Nat → Option Func) (pu : Nat → Bool) (pr : Nat → List AV → Option (Heap → Option (Eff × Acc))) : ZOk ⟨Try.tyT, fn, pu, pr⟩ npT F40 (G40 ⟨Try.tyT, fn, pu, pr⟩) := ⟨rfl, rfl, rfl, fun cy Y k => by kernel_rfl⟩
noncomputable def F41 : FFn := ⟨12, [0, 2, 1, 4], (.seq (.reg [⟨.box 25 (.v 0), (.var 1), none, false, 0, (some 0)⟩,
    ⟨.mv (.k (.sl 0 [] true)), (.var 3), none, true, 1, none⟩]) (.seq (.dreg 3 [0, 1, 0, 0, 0, 27, 63, 127] [⟨.load 25 (.v 1), .push, none, true, 0, none⟩,
    ⟨.call 22 [(.l 0)], .push, none, false, 1, (some 0)⟩,
    ⟨.load 25 (.v 1), .push, none, true, 3, none⟩,
    ⟨.call 26 [(.l 0), (.v 2)], .push, none, false, 5, (some 1)⟩,
    ⟨.call 38 [(.l 2), (.v 2), (.l 0)], .push, none, false, 6, (some 2)⟩,
    ⟨.mv (.l 0), (.var 3), none, true, 7, none⟩]) .ret)), [.tmp (.v 3)]⟩
noncomputable def G41 (E : Env) : ZFn := ⟨12, [0, 2, 1, 4], fun cy Y fuel =>
  (zSeq (zReg fun k => (zStep E (cy Y) ⟨.box 25 (.v 0), (.var 1), none, false, 0, (some 0)⟩) ((zDst (.var 3) (vMv (.k (.sl 0 [] true)))) k))
  (zSeq (zDreg 3 fun n0 k => (zDstWD [0, 1, 0, 0, 0, 27, 63, 127] 0 .push (wLoad 2 true (.v 1))) ((zCallD (cy Y) [0, 1, 0, 0, 0, 27, 63, 127] 1 22 [(.l 0)] .push) ((zDstWD [0, 1, 0, 0, 0, 27, 63, 127] 3 .push (wLoad 2 true (.v 1))) ((zCallD (cy Y) [0, 1, 0, 0, 0, 27, 63, 127] 5 26 [(.l 0), (.v 2)] .push) ((zCallD (cy Y) [0, 1, 0, 0, 0, 27, 63, 127] 6 38 [(.l 2), (.v 2), (.l 0)] .push) ((fun k sp => zDst (.var 3) (vMv (.l 0)) (k sp)) k))))))
  zRet)), [.tmp (.v 3)]⟩
theorem G41_ok (fn : Nat → Option Func) (pu : Nat → Bool) (pr : Nat → List AV → Option (Heap → Option (Eff × Acc))) : ZOk ⟨Try.tyT, fn, pu, pr⟩ npT F41 (G41 ⟨Try.tyT, fn, pu, pr⟩) := ⟨rfl, rfl, rfl, fun cy Y k => by kernel_rfl⟩
noncomputable def F42 : FFn := ⟨12, [0, 2, 1, 4], (.seq (.reg [⟨.box 25 (.v 0), (.var 1), none, false, 0, (some 0)⟩,
    ⟨.mv (.k (.sl 0 [] true)), (.var 3), none, true, 1, none⟩]) (.seq (.dreg 3 [0, 1, 0, 0, 0, 27, 63, 127] [⟨.load 25 (.v 1), .push, none, true, 0, none⟩,
    ⟨.call 23 [(.l 0)], .push, none, false, 1, (some 0)⟩,
    ⟨.load 25 (.v 1), .push, none, true, 3, none⟩,
    ⟨.call 27 [(.l 0), (.v 2)], .push, none, false, 5, (some 1)⟩,
    ⟨.call 39 [(.l 2), (.v 2), (.l 0)], .push, none, false, 6, (some 2)⟩,
    ⟨.mv (.l 0), (.var 3), none, true, 7, none⟩]) .ret)), [.tmp (.v 3)]⟩
noncomputable def G42 (E : Env) : ZFn := ⟨12, [0, 2, 1, 4], fun cy Y fuel =>
  (zSeq (zReg fun k => (zStep E (cy Y) ⟨.box 25 (.v 0), (.var 1), none, false, 0, (some 0)⟩) ((zDst (.var 3) (vMv (.k (.sl 0 [] true)))) k))
  (zSeq (zDreg 3 fun n0 k => (zDstWD [0, 1, 0, 0, 0, 27, 63, 127] 0 .push (wLoad 2 true (.v 1))) ((zCallD (cy Y) [0, 1, 0, 0, 0, 27, 63, 127] 1 23 [(.l 0)] .push) ((zDstWD [0, 1, 0, 0, 0, 27, 63, 127] 3 .push (wLoad 2 true (.v 1))) ((zCallD (cy Y) [0, 1, 0, 0, 0, 27, 63, 127] 5 27 [(.l 0), (.v 2)] .push) ((zCallD (cy Y) [0, 1, 0, 0, 0, 27, 63, 127] 6 39 [(.l 2), (.v 2), (.l 0)] .push) ((fun k sp => zDst (.var 3) (vMv (.l 0)) (k sp)) k))))))
  zRet)), [.tmp (.v 3)]⟩
theorem G42_ok (fn : Nat → Option Func) (pu : Nat → Bool) (pr : Nat → List AV → Option (Heap → Option (Eff × Acc))) : ZOk ⟨Try.tyT, fn, pu, pr⟩ npT F42 (G42 ⟨Try.tyT, fn, pu, pr⟩) := ⟨rfl, rfl, rfl, fun cy Y k => by kernel_rfl⟩
noncomputable def F43 : FFn := ⟨12, [0, 3, 2, 1, 6], (.seq (.reg [⟨.box 25 (.v 0), (.var 1), none, false, 0, (some 0)⟩,
    ⟨.mv (.k (.bool false)), (.var 4), none, true, 1, none⟩]) (.seq (.reg [⟨.load 25 (.v 1), .push, none, true, 0, none⟩,
    ⟨.call 41 [(.l 0), (.v 2)], .push, none, false, 2, (some 0)⟩,
    ⟨.call 73 [(.l 0), (.v 3)], .push, none, false, 4, (some 1)⟩,
    ⟨.mv (.l 0), (.var 4), none, true, 5, none⟩]) .ret)), [.tmp (.v 4)]⟩
noncomputable def G43 (E : Env) : ZFn := ⟨12, [0, 3, 2, 1, 6], fun cy Y fuel =>
  (zSeq (zReg fun k => (zStep E (cy Y) ⟨.box 25 (.v 0), (.var 1), none, false, 0, (some 0)⟩) ((zDst (.var 4) (vMv (.k (.bool false)))) k))
  (zSeq (zReg fun k => (zDstW .push (wLoad 2 true (.v 1))) ((zCall (cy Y) 41 [(.l 0), (.v 2)] .push) ((zCall (cy Y) 73 [(.l 0), (.v 3)] .push) ((zDst (.var 4) (vMv (.l 0))) k))))
  zRet)), [.tmp (.v 4)]⟩
theorem G43_ok (fn : Nat → Option Func) (pu : Nat → Bool) (pr : Nat → List AV → Option (Heap → Option (Eff × Acc))) : ZOk ⟨Try.tyT, fn, pu, pr⟩ npT F43 (G43 ⟨Try.tyT, fn, pu, pr⟩) := ⟨rfl, rfl, rfl, fun cy Y k => by kernel_rfl⟩
noncomputable def F44 : FFn := ⟨12, [0, 3, 2, 1, 6], (.seq (.reg [⟨.box 25 (.v 0), (.var 1), none, false, 0, (some 0)⟩,
    ⟨.mv (.k (.bool false)), (.var 4), none, true, 1, none⟩]) (.seq (.reg [⟨.load 25 (.v 1), .push, none, true, 0, none⟩,
    ⟨.call 42 [(.l 0), (.v 2)], .push, none, false, 2, (some 0)⟩,
    ⟨.call 30 [(.l 0), (.v 3)], .push, none, false, 4, (some 1)⟩,
    ⟨.mv (.l 0), (.var 4), none, true, 5, none⟩]) .ret)), [.tmp (.v 4)]⟩
noncomputable def G44 (E : Env) : ZFn := ⟨12, [0, 3, 2, 1, 6], fun cy Y fuel =>
  (zSeq (zReg fun k => (zStep E (cy Y) ⟨.box 25 (.v 0), (.var 1), none, false, 0, (some 0)⟩) ((zDst (.var 4) (vMv (.k (.bool false)))) k))
  (zSeq (zReg fun k => (zDstW .push (wLoad 2 true (.v 1))) ((zCall (cy Y) 42 [(.l 0), (.v 2)] .push) ((zCall (cy Y) 30 [(.l 0), (.v 3)] .push) ((zDst (.var 4) (vMv (.l 0))) k))))
  zRet)), [.tmp (.v 4)]⟩
theorem G44_ok (fn : Nat → Option Func) (pu : Nat → Bool) (pr : Nat → List AV → Option (Heap → Option (Eff × Acc))) : ZOk ⟨Try.tyT, fn, pu, pr⟩ npT F44 (G44 ⟨Try.tyT, fn, pu, pr⟩) := ⟨rfl, rfl, rfl, fun cy Y k => by kernel_rfl⟩
noncomputable def F45 : FFn := ⟨14, [0, 1, 4, 2, 3, 6], (.seq (.reg [⟨.box 25 (.v 0), (.var 4), none, false, 0, (some 0)⟩,
    ⟨.box 25 (.v 1), (.var 2), none, false, 1, (some 1)⟩,
    ⟨.mv (.k (.sl 0 [] true)), (.var 5), none, true, 2, none⟩]) (.seq (.dreg 3 [0, 0, 3, 0, 0, 31, 63, 127] [⟨.load 25 (.v 2), .push, none, true, 0, none⟩,
    ⟨.call 41 [(.l 0), (.v 3)], .push, none, false, 2, (some 0)⟩,
    ⟨.load 25 (.v 4), .push, none, true, 3, none⟩,
    ⟨.call 41 [(.l 0), (.v 3)], .push, none, false, 5, (some 1)⟩,
    ⟨.call 74 [(.l 2), (.l 0)], .push, none, false, 6, (some 2)⟩,
    ⟨.mv (.l 0), (.var 5), none, true, 7, none⟩]) .ret)), [.tmp (.v 5)]⟩
noncomputable def G45 (E : Env) : ZFn := ⟨14, [0, 1, 4, 2, 3, 6], fun cy Y fuel =>
  (zSeq (zReg fun k => (zStep E (cy Y) ⟨.box 25 (.v 0), (.var 4), none, false, 0, (some 0)⟩) ((zStep E (cy Y) ⟨.box 25 (.v 1), (.var 2), none, false, 1, (some 1)⟩) ((zDst (.var 5) (vMv (.k (.sl 0 [] true)))) k)))
  (zSeq (zDreg 3 fun n0 k => (zDstWD [0, 0, 3, 0, 0, 31, 63, 127] 0 .push (wLoad 2 true (.v 2))) ((zCallD (cy Y) [0, 0, 3, 0, 0, 31, 63, 127] 2 41 [(.l 0), (.v 3)] .push) ((zDstWD [0, 0, 3, 0, 0, 31, 63, 127] 3 .push (wLoad 2 true (.v 4))) ((zCallD (cy Y) [0, 0, 3, 0, 0, 31, 63, 127] 5 41 [(.l 0), (.v 3)] .push) ((zCallD (cy Y) [0, 0, 3, 0, 0, 31, 63, 127] 6 74 [(.l 2), (.l 0)] .push) ((fun k sp => zDst (.var 5) (vMv (.l 0)) (k sp)) k))))))
  zRet)), [.tmp (.v 5)]⟩
theorem G45_ok (fn : Nat → Option Func) (pu : Nat → Bool) (pr : Nat → List AV → Option (Heap → Option (Eff × Acc))) : ZOk ⟨Try.tyT, fn, pu, pr⟩ npT F45 (G45 ⟨Try.tyT, fn, pu, pr⟩) := ⟨rfl, rfl, rfl, fun cy Y k => by kernel_rfl⟩
noncomputable def F46 : FFn := ⟨38, [0, 1, 3, 2, 4, 10, 8, 7, 9, 6], (.seq (.reg [⟨.box 25 (.v 0), (.var 2), none, false, 0, (some 0)⟩,
    ⟨.box 25 (.v 1), (.var 4), none, false, 1, (some 1)⟩,
    ⟨.mv (.k (.sl 0 [] true)), (.var 9), none, true, 2, none⟩]) (.seq (.dreg 2 [0, 0, 3, 0, 0, 31, 63, 127] [⟨.load 25 (.v 2), .push, none, true, 0, none⟩,
    ⟨.call 42 [(.l 0), (.v 3)], .push, none, false, 2, (some 0)⟩,
    ⟨.load 25 (.v 4), .push, none, true, 3, none⟩,
    ⟨.call 42 [(.l 0), (.v 3)], .push, none, false, 5, (some 1)⟩,
    ⟨.mv (.l 2), (.var 7), none, true, 6, none⟩,
    ⟨.mv (.l 0), (.var 6), none, true, 7, none⟩]) (.seq (.reg [⟨.mv (.k (.sl 0 [] true)), (.var 8), none, true, 0, none⟩]) (.seq (.seq (.reg [⟨.mv (.k (.int .i64 0)), (.var 5), none, true, 0, none⟩]) (.block 0 (.loop (.seq (.seq (.reg [⟨.len 32 (.v 6), .push, none, false, 2, none⟩,
    ⟨.bin .lss 3 false false (.v 5) (.l 0), .push, none, false, 3, none⟩]) (.cond (.l 0) .skip (.exit 0))) (.seq (.block 1 (.seq (.reg [⟨.indexAddr 32 (.v 6) (.v 5), .push, none, true, 3, none⟩,
    ⟨.load 3 (.l 0), .push, none, true, 4, none⟩,
    ⟨.call 30 [(.v 7), (.l 0)], .push, none, false, 5, (some 0)⟩,
    ⟨.un .not (.l 0), .push, none, false, 6, none⟩]) (.cond (.l 0) (.reg [⟨.mv (.v 8), .push, none, true, 0, none⟩,
    ⟨.indexAddr 32 (.v 6) (.v 5), .push, none, true, 3, none⟩,
    ⟨.load 3 (.l 0), .push, none, true, 4, none⟩,
    ⟨.buildSlice 32 1 [(0, (.l 0))], .push, none, false, 5, (some 0)⟩,
    ⟨.append 32 32 (.l 3) (.l 0), .push, none, false, 6, (some 1)⟩,
    ⟨.mv (.l 0), (.var 8), none, true, 7, none⟩]) .skip))) (.reg [⟨.mv (.v 5), .push, none, true, 0, none⟩,
    ⟨.bin .add 3 false true (.l 0) (.k (.int .i64 1)), .push, none, false, 1, none⟩,
    ⟨.mv (.l 0), (.var 5), none, true, 2, none⟩])))))) (.seq (.reg [⟨.mv (.v 8), (.var 9), none, true, 1, none⟩]) .ret))))), [.tmp (.v 9)]⟩
noncomputable def G46 (E : Env) : ZFn := ⟨38, [0, 1, 3, 2, 4, 10, 8, 7, 9, 6], fun cy Y fuel =>
  (zSeq (zReg fun k => (zStep E (cy Y) ⟨.box 25 (.v 0), (.var 2), none, false, 0, (some 0)⟩) ((zStep E (cy Y) ⟨.box 25 (.v 1), (.var 4), none, false, 1, (some 1)⟩) ((zDst (.var 9) (vMv (.k (.sl 0 [] true)))) k)))
  (zSeq (zDreg 2 fun n0 k => (zDstWD [0, 0, 3, 0, 0, 31, 63, 127] 0 .push (wLoad 2 true (.v 2))) ((zCallD (cy Y) [0, 0, 3, 0, 0, 31, 63, 127] 2 42 [(.l 0), (.v 3)] .push) ((zDstWD [0, 0, 3, 0, 0, 31, 63, 127] 3 .push (wLoad 2 true (.v 4))) ((zCallD (cy Y) [0, 0, 3, 0, 0, 31, 63, 127] 5 42 [(.l 0), (.v 3)] .push) ((fun k sp => zDst (.var 7) (vMv (.l 2)) (k sp)) ((fun k sp => zDst (.var 6) (vMv (.l 0)) (k sp)) k))))))
  (zSeq (zReg fun k => (zDst (.var 8) (vMv (.k (.sl 0 [] true)))) k)
  (zSeq (zSeq (zReg fun k => (zDst (.var 5) (vMv (.k (.int .i64 0)))) k)
  (zBlock 0 (zLoop fuel (zSeq (zSeq (zReg fun k => (zDst .push (vLenL (.v 6))) ((zDst .push (vInt E fLss .lss 3 false false (.v 5) (.l 0))) k))
  (zCond (.l 0) zSkip (zExit 0)))
  (zSeq (zBlock 1 (zSeq (zReg fun k => (zDst .push (vIndexAddr 1 (.v 6) (.v 5))) ((zDstW .push (wLoad 1 false (.l 0))) ((zCall (cy Y) 30 [(.v 7), (.l 0)] .push) ((zDst .push (vNot (.l 0))) k))))
  (zCond (.l 0) (zReg fun k => (zDst .push (vMv (.v 8))) ((zDst .push (vIndexAddr 1 (.v 6) (.v 5))) ((zDstW .push (wLoad 1 false (.l 0))) ((zStep E (cy Y) ⟨.buildSlice 32 1 [(0, (.l 0))], .push, none, false, 5, (some 0)⟩) ((zStep E (cy Y) ⟨.append 32 32 (.l 3) (.l 0), .push, none, false, 6, (some 1)⟩) ((zDst (.var 8) (vMv (.l 0))) k)))))) zSkip)))
  (zReg fun k => (zDst .push (vMv (.v 5))) ((zDst .push (vInt E fAdd .add 3 false true (.l 0) (.k (.int .i64 1)))) ((zDst (.var 5) (vMv (.l 0))) k))))))))
  (zSeq (zReg fun k => (zDst (.var 9) (vMv (.v 8))) k)
  zRet))))), [.tmp (.v 9)]⟩
theorem G46_ok (fn : Nat → Option Func) (pu : Nat → Bool) (pr : Nat → List AV → Option (Heap → Option (Eff × Acc))) : ZOk ⟨Try.tyT, fn, pu, pr⟩ npT F46 (G46 ⟨Try.tyT, fn, pu, pr⟩) := ⟨rfl, rfl, rfl, fun cy Y k => by kernel_rfl⟩
noncomputable def F47 : FFn := ⟨10, [0, 1, 2, 3, 4], (.seq (.reg [⟨.box 56 (.v 0), (.var 2), none, false, 0, (some 0)⟩,
    ⟨.box 56 (.v 1), (.var 3), none, false, 1, (some 1)⟩,
    ⟨.mv (.k (.int .i64 0)), (.var 4), none, true, 2, none⟩]) (.seq (.reg [⟨.fieldAddr 56 (.v 2) 0, .push, none, true, 0, none⟩,
    ⟨.load 3 (.l 0), .push, none, true, 1, none⟩,
    ⟨.fieldAddr 56 (.v 3) 0, .push, none, true, 2, none⟩,
    ⟨.load 3 (.l 0), .push, none, true, 3, none⟩,
    ⟨.call 75 [(.l 2), (.l 0)], .push, none, false, 4, (some 0)⟩,
    ⟨.mv (.l 0), (.var 4), none, true, 5, none⟩]) .ret)), [.tmp (.v 4)]⟩
noncomputable def G47 (E : Env) : ZFn := ⟨10, [0, 1, 2, 3, 4], fun cy Y fuel =>
  (zSeq (zReg fun k => (zStep E (cy Y) ⟨.box 56 (.v 0), (.var 2), none, false, 0, (some 0)⟩) ((zStep E (cy Y) ⟨.box 56 (.v 1), (.var 3), none, false, 1, (some 1)⟩) ((zDst (.var 4) (vMv (.k (.int .i64 0)))) k)))
  (zSeq (zReg fun k => (zDst .push (vFieldAddr 0 (.v 2))) ((zDstW .push (wLoad 1 false (.l 0))) ((zDst .push (vFieldAddr 0 (.v 3))) ((zDstW .push (wLoad 1 false (.l 0))) ((zCall (cy Y) 75 [(.l 2), (.l 0)] .push) ((zDst (.var 4) (vMv (.l 0))) k))))))
  zRet)), [.tmp (.v 4)]⟩
theorem G47_ok (fn : Nat → Option Func) (pu : Nat → Bool) (pr : Nat → List AV → Option (Heap → Option (Eff × Acc))) : ZOk ⟨Try.tyT, fn, pu, pr⟩ npT F47 (G47 ⟨Try.tyT, fn, pu, pr⟩) := ⟨rfl, rfl, rfl, fun cy Y k => by kernel_rfl⟩
noncomputable def F48 : FFn := ⟨12, [0, 2], (.seq (.reg [⟨.alloc 4, (.var 1), none, false, 0, (some 0)⟩]) (.seq (.seq (.reg [⟨.call 76 [(.v 0)], .push, none, false, 1, (some 0)⟩]) (.block 0 (.range (.l 0) 1 [none, none, none, none, (some (.v 1))] [none, none, (some (.v 1)), none, none, none, none, none, none, none, none, none] [7, 8] (codeAt [1, 0, 1, 0, 0] (bodyOf Try.f48)) (codeAt [1, 0, 1, 0, 1] (bodyOf Try.f48))))) (.seq (.reg [⟨.store 4 (.v 1) (.k (.bool true)), .none, none, false, 0, none⟩]) .ret))), [.cell (.v 1) 4]⟩
noncomputable def G48 (E : Env) : ZFn := ⟨12, [0, 2], fun cy Y fuel =>
  (zSeq (zReg fun k => (zStep E (cy Y) ⟨.alloc 4, (.var 1), none, false, 0, (some 0)⟩) k)
  (zSeq (zSeq (zReg fun k => (zCall (cy Y) 76 [(.v 0)] .push) k)
  (zBlock 0 (zRange cy Y (.l 0) 1 [none, none, none, none, (some (.v 1))] [none, none, (some (.v 1)), none, none, none, none, none, none, none, none, none] [7, 8] (codeAt [1, 0, 1, 0, 0] (bodyOf Try.f48)) (codeAt [1, 0, 1, 0, 1] (bodyOf Try.f48)))))
  (zSeq (zReg fun k => (zStep E (cy Y) ⟨.store 4 (.v 1) (.k (.bool true)), .none, none, false, 0, none⟩) k)
  zRet))), [.cell (.v 1) 4]⟩
theorem G48_ok (fn : Nat → Option Func) (pu : Nat → Bool) (pr : Nat → List AV → Option (Heap → Option (Eff × Acc))) : ZOk ⟨Try.tyT, fn, pu, pr⟩ npT F48 (G48 ⟨Try.tyT, fn, pu, pr⟩) := ⟨rfl, rfl, rfl, fun cy Y k => by kernel_rfl⟩
noncomputable def F49 : FFn := ⟨26, [0, 1, 13, 12, 5, 4], (.seq (.reg [⟨.mv (.k (.bool false)), (.var 5), none, true, 0, none⟩]) (.seq (.seq (.reg [⟨.len 22 (.v 0), .push, none, false, 1, none⟩,
    ⟨.len 22 (.v 1), .push, none, false, 3, none⟩,
    ⟨.bin .neq 3 false false (.l 1) (.l 0), .push, none, false, 4, none⟩]) (.cond (.l 0) (.seq (.reg [⟨.mv (.k (.bool false)), (.var 5), none, true, 0, none⟩]) .ret) .skip)) (.seq (.seq (.reg [⟨.len 22 (.v 0), (.var 3), none, false, 1, none⟩,
    ⟨.mv (.k (.int .i64 0)), (.var 2), none, true, 2, none⟩]) (.block 0 (.loop (.seq (.reg [⟨.bin .lss 3 false false (.v 2) (.v 3), .push, none, false, 0, none⟩]) (.seq (.cond (.l 0) .skip (.exit 0)) (.seq (.block 1 (.seq (.reg [⟨.mv (.v 2), (.var 4), none, true, 1, none⟩]) (.seq (.dreg 0 [0, 0, 3, 7, 0, 0, 48, 112, 255] [⟨.indexAddr 22 (.v 0) (.v 4), .push, none, true, 2, none⟩,
    ⟨.load 56 (.l 0), .push, none, true, 3, none⟩,
    ⟨.indexAddr 22 (.v 1) (.v 4), .push, none, true, 6, none⟩,
    ⟨.load 56 (.l 0), .push, none, true, 7, none⟩,
    ⟨.bin .neq 56 false false (.l 2) (.l 0), .push, none, false, 8, none⟩]) (.cond (.l 0) (.seq (.reg [⟨.mv (.k (.bool false)), (.var 5), none, true, 0, none⟩]) .ret) .skip)))) (.reg [⟨.bin .add 3 false true (.v 2) (.k (.int .i64 1)), .push, none, false, 0, none⟩,
    ⟨.mv (.l 0), (.var 2), none, true, 1, none⟩]))))))) (.seq (.reg [⟨.mv (.k (.bool true)), (.var 5), none, true, 0, none⟩]) .ret)))), [.tmp (.v 5)]⟩
noncomputable def G49 (E : Env) : ZFn := ⟨26, [0, 1, 13, 12, 5, 4], fun cy Y fuel =>
  (zSeq (zReg fun k => (zDst (.var 5) (vMv (.k (.bool false)))) k)
  (zSeq (zSeq (zReg fun k => (zDst .push (vLenL (.v 0))) ((zDst .push (vLenL (.v 1))) ((zDst .push (vInt E fNeq .neq 3 false false (.l 1) (.l 0))) k)))
  (zCond (.l 0) (zSeq (zReg fun k => (zDst (.var 5) (vMv (.k (.bool false)))) k)
  zRet) zSkip))
  (zSeq (zSeq (zReg fun k => (zDst (.var 3) (vLenL (.v 0))) ((zDst (.var 2) (vMv (.k (.int .i64 0)))) k))
  (zBlock 0 (zLoop fuel (zSeq (zReg fun k => (zDst .push (vInt E fLss .lss 3 false false (.v 2) (.v 3))) k)
  (zSeq (zCond (.l 0) zSkip (zExit 0))
  (zSeq (zBlock 1 (zSeq (zReg fun k => (zDst (.var 4) (vMv (.v 2))) k)
  (zSeq (zDreg 0 fun n0 k => (fun k sp => zDst .push (vIndexAddr 2 (.v 0) (.v 4)) (k sp)) ((zDstWD [0, 0, 3, 7, 0, 0, 48, 112, 255] 3 .push (wLoad 2 true (.l 0))) ((fun k sp => zDst .push (vIndexAddr 2 (.v 1) (.v 4)) (k sp)) ((zDstWD [0, 0, 3, 7, 0, 0, 48, 112, 255] 7 .push (wLoad 2 true (.l 0))) ((fun k sp => zDst .push (vInt E fNeq .neq 56 false false (.l 2) (.l 0)) (k sp)) k)))))
  (zCond (.l 0) (zSeq (zReg fun k => (zDst (.var 5) (vMv (.k (.bool false)))) k)
  zRet) zSkip))))
  (zReg fun k => (zDst .push (vInt E fAdd .add 3 false true (.v 2) (.k (.int .i64 1)))) ((zDst (.var 2) (vMv (.l 0))) k))))))))
  (zSeq (zReg fun k => (zDst (.var 5) (vMv (.k (.bool true)))) k)
  zRet)))), [.tmp (.v 5)]⟩
theorem G49_ok (fn : Nat → Option Func) (pu : Nat → Bool) (pr : Nat → List AV → Option (Heap → Option (Eff × Acc))) : ZOk ⟨Try.tyT, fn, pu, pr⟩ npT F49 (G49 ⟨Try.tyT, fn, pu, pr⟩) := ⟨rfl, rfl, rfl, fun cy Y k => by kernel_rfl⟩
noncomputable def F50 : FFn := ⟨26, [0, 1, 13, 12, 5, 4], (.seq (.reg [⟨.mv (.k (.bool false)), (.var 5), none, true, 0, none⟩]) (.seq (.seq (.reg [⟨.len 23 (.v 0), .push, none, false, 1, none⟩,
    ⟨.len 23 (.v 1), .push, none, false, 3, none⟩,
    ⟨.bin .neq 3 false false (.l 1) (.l 0), .push, none, false, 4, none⟩]) (.cond (.l 0) (.seq (.reg [⟨.mv (.k (.bool false)), (.var 5), none, true, 0, none⟩]) .ret) .skip)) (.seq (.seq (.reg [⟨.len 23 (.v 0), (.var 3), none, false, 1, none⟩,
    ⟨.mv (.k (.int .i64 0)), (.var 2), none, true, 2, none⟩]) (.block 0 (.loop (.seq (.reg [⟨.bin .lss 3 false false (.v 2) (.v 3), .push, none, false, 0, none⟩]) (.seq (.cond (.l 0) .skip (.exit 0)) (.seq (.block 1 (.seq (.reg [⟨.mv (.v 2), (.var 4), none, true, 1, none⟩]) (.seq (.dreg 0 [0, 0, 3, 7, 0, 0, 48, 112, 255] [⟨.indexAddr 23 (.v 0) (.v 4), .push, none, true, 2, none⟩,
    ⟨.load 60 (.l 0), .push, none, true, 3, none⟩,
    ⟨.indexAddr 23 (.v 1) (.v 4), .push, none, true, 6, none⟩,
    ⟨.load 60 (.l 0), .push, none, true, 7, none⟩,
    ⟨.bin .neq 60 false false (.l 2) (.l 0), .push, none, false, 8, none⟩]) (.cond (.l 0) (.seq (.reg [⟨.mv (.k (.bool false)), (.var 5), none, true, 0, none⟩]) .ret) .skip)))) (.reg [⟨.bin .add 3 false true (.v 2) (.k (.int .i64 1)), .push, none, false, 0, none⟩,
    ⟨.mv (.l 0), (.var 2), none, true, 1, none⟩]))))))) (.seq (.reg [⟨.mv (.k (.bool true)), (.var 5), none, true, 0, none⟩]) .ret)))), [.tmp (.v 5)]⟩
noncomputable def G50 (E : Env) : ZFn := ⟨26, [0, 1, 13, 12, 5, 4], fun cy Y fuel =>
  (zSeq (zReg fun k => (zDst (.var 5) (vMv (.k (.bool false)))) k)
  (zSeq (zSeq (zReg fun k => (zDst .push (vLenL (.v 0))) ((zDst .push (vLenL (.v 1))) ((zDst .push (vInt E fNeq .neq 3 false false (.l 1) (.l 0))) k)))
  (zCond (.l 0) (zSeq (zReg fun k => (zDst (.var 5) (vMv (.k (.bool false)))) k)
  zRet) zSkip))
  (zSeq (zSeq (zReg fun k => (zDst (.var 3) (vLenL (.v 0))) ((zDst (.var 2) (vMv (.k (.int .i64 0)))) k))
  (zBlock 0 (zLoop fuel (zSeq (zReg fun k => (zDst .push (vInt E fLss .lss 3 false false (.v 2) (.v 3))) k)
  (zSeq (zCond (.l 0) zSkip (zExit 0))
  (zSeq (zBlock 1 (zSeq (zReg fun k => (zDst (.var 4) (vMv (.v 2))) k)
  (zSeq (zDreg 0 fun n0 k => (fun k sp => zDst .push (vIndexAddr 3 (.v 0) (.v 4)) (k sp)) ((zDstWD [0, 0, 3, 7, 0, 0, 48, 112, 255] 3 .push (wLoad 3 true (.l 0))) ((fun k sp => zDst .push (vIndexAddr 3 (.v 1) (.v 4)) (k sp)) ((zDstWD [0, 0, 3, 7, 0, 0, 48, 112, 255] 7 .push (wLoad 3 true (.l 0))) ((fun k sp => zDst .push (vInt E fNeq .neq 60 false false (.l 2) (.l 0)) (k sp)) k)))))
  (zCond (.l 0) (zSeq (zReg fun k => (zDst (.var 5) (vMv (.k (.bool false)))) k)
  zRet) zSkip))))
  (zReg fun k => (zDst .push (vInt E fAdd .add 3 false true (.v 2) (.k (.int .i64 1)))) ((zDst (.var 2) (vMv (.l 0))) k))))))))
  (zSeq (zReg fun k => (zDst (.var 5) (vMv (.k (.bool true)))) k)
  zRet)))), [.tmp (.v 5)]⟩
theorem G50_ok (fn : Nat → Option Func) (pu : Nat → Bool) (pr : Nat → List AV → Option (Heap → Option (Eff × Acc))) : ZOk ⟨Try.tyT, fn, pu, pr⟩ npT F50 (G50 ⟨Try.tyT, fn, pu, pr⟩) := ⟨rfl, rfl, rfl, fun cy Y k => by kernel_rfl⟩
noncomputable def F51 : FFn := ⟨47, [0, 1, 18, 17, 16, 9, 11, 2, 13, 12, 3, 8], (.seq (.reg [⟨.mv (.k (.sl 0 [] true)), (.var 11), none, true, 0, none⟩]) (.seq (.reg [⟨.call 61 [(.v 0)], .push, none, false, 1, (some 0)⟩,
    ⟨.mv (.l 0), (.var 5), none, true, 2, none⟩]) (.seq (.seq (.reg [⟨.mv (.v 1), (.var 4), none, true, 0, none⟩,
    ⟨.len 23 (.v 4), (.var 3), none, false, 1, none⟩,
    ⟨.mv (.k (.int .i64 0)), (.var 2), none, true, 2, none⟩]) (.block 0 (.loop (.seq (.reg [⟨.bin .lss 3 false false (.v 2) (.v 3), .push, none, false, 0, none⟩]) (.seq (.cond (.l 0) .skip (.exit 0)) (.seq (.block 1 (.seq (.reg [⟨.indexAddr 23 (.v 4) (.v 2), .push, none, true, 0, none⟩,
    ⟨.load 60 (.l 0), .push, none, true, 1, none⟩,
    ⟨.alloc 60, (.var 6), none, false, 2, (some 0)⟩,
    ⟨.store 60 (.v 6) (.l 0), .none, none, false, 3, none⟩]) (.seq (.reg [⟨.load 60 (.v 6), .push, none, true, 1, none⟩,
    ⟨.call 77 [(.v 5), (.l 0), (.v 7)], .push, none, false, 3, (some 0)⟩,
    ⟨.extract (.l 0) 0, .push, none, true, 5, none⟩,
    ⟨.extract (.l 1) 1, .push, none, true, 6, none⟩,
    ⟨.mv (.l 1), (.var 9), none, true, 7, none⟩,
    ⟨.mv (.l 0), (.var 8), none, true, 8, none⟩]) (.seq (.reg []) (.cond (.v 8) (.dreg 1 [0, 0, 0, 0, 0, 24, 56, 0, 252, 511, 1023] [⟨.indexAddr 23 (.v 5) (.v 9), .push, none, true, 5, none⟩,
    ⟨.load 60 (.l 0), .push, none, true, 6, none⟩,
    ⟨.load 60 (.v 6), .push, none, true, 7, none⟩,
    ⟨.callv (.v 10) [(.l 1), (.l 0)], .push, none, false, 8, (some 0)⟩,
    ⟨.indexAddr 23 (.v 5) (.v 9), .push, none, true, 9, none⟩,
    ⟨.store 60 (.l 0) (.l 1), .none, none, false, 10, none⟩]) (.reg [⟨.mv (.v 5), .push, none, true, 0, none⟩,
    ⟨.load 60 (.v 6), .push, none, true, 2, none⟩,
    ⟨.buildSlice 23 1 [(0, (.l 0))], .push, none, false, 3, (some 0)⟩,
    ⟨.call 78 [(.l 2), (.v 9), (.l 0)], .push, none, false, 4, (some 1)⟩,
    ⟨.mv (.l 0), (.var 5), none, true, 5, none⟩])))))) (.reg [⟨.bin .add 3 false true (.v 2) (.k (.int .i64 1)), .push, none, false, 0, none⟩,
    ⟨.mv (.l 0), (.var 2), none, true, 1, none⟩]))))))) (.seq (.reg [⟨.mv (.v 5), (.var 11), none, true, 1, none⟩]) .ret)))), [.tmp (.v 11)]⟩
noncomputable def G51 (E : Env) : ZFn := ⟨47, [0, 1, 18, 17, 16, 9, 11, 2, 13, 12, 3, 8], fun cy Y fuel =>
  (zSeq (zReg fun k => (zDst (.var 11) (vMv (.k (.sl 0 [] true)))) k)
  (zSeq (zReg fun k => (zStep E (cy Y) ⟨.call 61 [(.v 0)], .push, none, false, 1, (some 0)⟩) ((zDst (.var 5) (vMv (.l 0))) k))
  (zSeq (zSeq (zReg fun k => (zDst (.var 4) (vMv (.v 1))) ((zDst (.var 3) (vLenL (.v 4))) ((zDst (.var 2) (vMv (.k (.int .i64 0)))) k)))
  (zBlock 0 (zLoop fuel (zSeq (zReg fun k => (zDst .push (vInt E fLss .lss 3 false false (.v 2) (.v 3))) k)
  (zSeq (zCond (.l 0) zSkip (zExit 0))
  (zSeq (zBlock 1 (zSeq (zReg fun k => (zDst .push (vIndexAddr 3 (.v 4) (.v 2))) ((zDstW .push (wLoad 3 true (.l 0))) ((zStep E (cy Y) ⟨.alloc 60, (.var 6), none, false, 2, (some 0)⟩) ((zStep E (cy Y) ⟨.store 60 (.v 6) (.l 0), .none, none, false, 3, none⟩) k))))
  (zSeq (zReg fun k => (zDstW .push (wLoad 3 true (.v 6))) ((zCall (cy Y) 77 [(.v 5), (.l 0), (.v 7)] .push) ((zDst .push (vExtract 0 (.l 0))) ((zDst .push (vExtract 1 (.l 1))) ((zDst (.var 9) (vMv (.l 1))) ((zDst (.var 8) (vMv (.l 0))) k))))))
  (zSeq (zReg fun k => k)
  (zCond (.v 8) (zDreg 1 fun n0 k => (fun k sp => zDst .push (vIndexAddr 3 (.v 5) (.v 9)) (k sp)) ((zDstWD [0, 0, 0, 0, 0, 24, 56, 0, 252, 511, 1023] 6 .push (wLoad 3 true (.l 0))) ((zDstWD [0, 0, 0, 0, 0, 24, 56, 0, 252, 511, 1023] 7 .push (wLoad 3 true (.v 6))) ((zStepD E (cy Y) [0, 0, 0, 0, 0, 24, 56, 0, 252, 511, 1023] n0 ⟨.callv (.v 10) [(.l 1), (.l 0)], .push, none, false, 8, (some 0)⟩) ((fun k sp => zDst .push (vIndexAddr 3 (.v 5) (.v 9)) (k sp)) ((zStepD E (cy Y) [0, 0, 0, 0, 0, 24, 56, 0, 252, 511, 1023] n0 ⟨.store 60 (.l 0) (.l 1), .none, none, false, 10, none⟩) k)))))) (zReg fun k => (zDst .push (vMv (.v 5))) ((zDstW .push (wLoad 3 true (.v 6))) ((zStep E (cy Y) ⟨.buildSlice 23 1 [(0, (.l 0))], .push, none, false, 3, (some 0)⟩) ((zStep E (cy Y) ⟨.call 78 [(.l 2), (.v 9), (.l 0)], .push, none, false, 4, (some 1)⟩) ((zDst (.var 5) (vMv (.l 0))) k))))))))))
  (zReg fun k => (zDst .push (vInt E fAdd .add 3 false true (.v 2) (.k (.int .i64 1)))) ((zDst (.var 2) (vMv (.l 0))) k))))))))
  (zSeq (zReg fun k => (zDst (.var 11) (vMv (.v 5))) k)
  zRet)))), [.tmp (.v 11)]⟩
theorem G51_ok (fn : Nat → Option Func) (pu : Nat → Bool) (pr : Nat → List AV → Option (Heap → Option (Eff × Acc))) : ZOk ⟨Try.tyT, fn, pu, pr⟩ npT F51 (G51 ⟨Try.tyT, fn, pu, pr⟩) := ⟨rfl, rfl, rfl, fun cy Y k => by kernel_rfl⟩
noncomputable def F52 : FFn := ⟨10, [0, 1, 2, 3, 4], (.seq (.reg [⟨.box 60 (.v 0), (.var 2), none, false, 0, (some 0)⟩,
    ⟨.box 60 (.v 1), (.var 3), none, false, 1, (some 1)⟩,
    ⟨.mv (.k (.int .i64 0)), (.var 4), none, true, 2, none⟩]) (.seq (.reg [⟨.fieldAddr 60 (.v 2) 0, .push, none, true, 0, none⟩,
    ⟨.load 9 (.l 0), .push, none, true, 1, none⟩,
    ⟨.fieldAddr 60 (.v 3) 0, .push, none, true, 2, none⟩,
    ⟨.load 9 (.l 0), .push, none, true, 3, none⟩,
    ⟨.call 79 [(.l 2), (.l 0)], .push, none, false, 4, (some 0)⟩,
    ⟨.mv (.l 0), (.var 4), none, true, 5, none⟩]) .ret)), [.tmp (.v 4)]⟩
noncomputable def G52 (E : Env) : ZFn := ⟨10, [0, 1, 2, 3, 4], fun cy Y fuel =>
  (zSeq (zReg fun k => (zStep E (cy Y) ⟨.box 60 (.v 0), (.var 2), none, false, 0, (some 0)⟩) ((zStep E (cy Y) ⟨.box 60 (.v 1), (.var 3), none, false, 1, (some 1)⟩) ((zDst (.var 4) (vMv (.k (.int .i64 0)))) k)))
  (zSeq (zReg fun k => (zDst .push (vFieldAddr 0 (.v 2))) ((zDstW .push (wLoad 1 false (.l 0))) ((zDst .push (vFieldAddr 0 (.v 3))) ((zDstW .push (wLoad 1 false (.l 0))) ((zCall (cy Y) 79 [(.l 2), (.l 0)] .push) ((zDst (.var 4) (vMv (.l 0))) k))))))
  zRet)), [.tmp (.v 4)]⟩
theorem G52_ok (fn : Nat → Option Func) (pu : Nat → Bool) (pr : Nat → List AV → Option (Heap → Option (Eff × Acc))) : ZOk ⟨Try.tyT, fn, pu, pr⟩ npT F52 (G52 ⟨Try.tyT, fn, pu, pr⟩) := ⟨rfl, rfl, rfl, fun cy Y k => by kernel_rfl⟩
noncomputable def F53 : FFn := ⟨20, [0, 1, 2, 3, 4], (.seq (.reg [⟨.box 60 (.v 0), (.var 2), none, false, 0, (some 0)⟩,
    ⟨.box 60 (.v 1), (.var 3), none, false, 1, (some 1)⟩,
    ⟨.alloc 60, (.var 4), none, false, 2, (some 2)⟩]) (.seq (.seq (.dreg 4 [0, 1, 0, 4, 15, 0, 32, 0, 128, 511, 1023, 2047, 4095] [⟨.fieldAddr 60 (.v 2) 1, .push, none, true, 0, none⟩,
    ⟨.load 42 (.l 0), .push, none, true, 1, none⟩,
    ⟨.fieldAddr 60 (.v 3) 1, .push, none, true, 2, none⟩,
    ⟨.load 42 (.l 0), .push, none, true, 3, none⟩,
    ⟨.call 55 [(.l 2), (.l 0)], .push, none, false, 4, (some 0)⟩,
    ⟨.fieldAddr 60 (.v 2) 2, .push, none, true, 5, none⟩,
    ⟨.load 42 (.l 0), .push, none, true, 6, none⟩,
    ⟨.fieldAddr 60 (.v 3) 2, .push, none, true, 7, none⟩,
    ⟨.load 42 (.l 0), .push, none, true, 8, none⟩,
    ⟨.call 55 [(.l 2), (.l 0)], .push, none, false, 9, (some 1)⟩,
    ⟨.buildSlice 32 2 [(0, (.l 5)), (1, (.l 0))], .push, none, false, 10, (some 2)⟩,
    ⟨.call 54 [(.l 0)], .push, none, false, 11, (some 3)⟩,
    ⟨.bin .lss 3 false true (.l 0) (.k (.int .i64 0)), .push, none, false, 12, none⟩]) (.cond (.l 0) (.seq (.reg [⟨.load 60 (.v 3), .push, none, true, 0, none⟩,
    ⟨.store 60 (.v 4) (.l 0), .none, none, false, 1, none⟩]) .ret) .skip)) (.seq (.reg [⟨.load 60 (.v 2), .push, none, true, 0, none⟩,
    ⟨.store 60 (.v 4) (.l 0), .none, none, false, 1, none⟩]) .ret))), [.cell (.v 4) 60]⟩
noncomputable def G53 (E : Env) : ZFn := ⟨20, [0, 1, 2, 3, 4], fun cy Y fuel =>
  (zSeq (zReg fun k => (zStep E (cy Y) ⟨.box 60 (.v 0), (.var 2), none, false, 0, (some 0)⟩) ((zStep E (cy Y) ⟨.box 60 (.v 1), (.var 3), none, false, 1, (some 1)⟩) ((zStep E (cy Y) ⟨.alloc 60, (.var 4), none, false, 2, (some 2)⟩) k)))
  (zSeq (zSeq (zDreg 4 fun n0 k => (fun k sp => zDst .push (vFieldAddr 1 (.v 2)) (k sp)) ((zDstWD [0, 1, 0, 4, 15, 0, 32, 0, 128, 511, 1023, 2047, 4095] 1 .push (wLoad 1 false (.l 0))) ((fun k sp => zDst .push (vFieldAddr 1 (.v 3)) (k sp)) ((zDstWD [0, 1, 0, 4, 15, 0, 32, 0, 128, 511, 1023, 2047, 4095] 3 .push (wLoad 1 false (.l 0))) ((zCallD (cy Y) [0, 1, 0, 4, 15, 0, 32, 0, 128, 511, 1023, 2047, 4095] 4 55 [(.l 2), (.l 0)] .push) ((fun k sp => zDst .push (vFieldAddr 2 (.v 2)) (k sp)) ((zDstWD [0, 1, 0, 4, 15, 0, 32, 0, 128, 511, 1023, 2047, 4095] 6 .push (wLoad 1 false (.l 0))) ((fun k sp => zDst .push (vFieldAddr 2 (.v 3)) (k sp)) ((zDstWD [0, 1, 0, 4, 15, 0, 32, 0, 128, 511, 1023, 2047, 4095] 8 .push (wLoad 1 false (.l 0))) ((zCallD (cy Y) [0, 1, 0, 4, 15, 0, 32, 0, 128, 511, 1023, 2047, 4095] 9 55 [(.l 2), (.l 0)] .push) ((zStepD E (cy Y) [0, 1, 0, 4, 15, 0, 32, 0, 128, 511, 1023, 2047, 4095] n0 ⟨.buildSlice 32 2 [(0, (.l 5)), (1, (.l 0))], .push, none, false, 10, (some 2)⟩) ((zCallD (cy Y) [0, 1, 0, 4, 15, 0, 32, 0, 128, 511, 1023, 2047, 4095] 11 54 [(.l 0)] .push) ((fun k sp => zDst .push (vInt E fLss .lss 3 false true (.l 0) (.k (.int .i64 0))) (k sp)) k)))))))))))))
  (zCond (.l 0) (zSeq (zReg fun k => (zDstW .push (wLoad 3 true (.v 3))) ((zStep E (cy Y) ⟨.store 60 (.v 4) (.l 0), .none, none, false, 1, none⟩) k))
  zRet) zSkip))
  (zSeq (zReg fun k => (zDstW .push (wLoad 3 true (.v 2))) ((zStep E (cy Y) ⟨.store 60 (.v 4) (.l 0), .none, none, false, 1, none⟩) k))
  zRet))), [.cell (.v 4) 60]⟩
theorem G53_ok (fn : Nat → Option Func) (pu : Nat → Bool) (pr : Nat → List AV → Option (Heap → Option (Eff × Acc))) : ZOk ⟨Try.tyT, fn, pu, pr⟩ npT F53 (G53 ⟨Try.tyT, fn, pu, pr⟩) := ⟨rfl, rfl, rfl, fun cy Y k => by kernel_rfl⟩
noncomputable def F54 : FFn := ⟨18, [0, 8, 7, 6, 5, 3, 2], (.seq (.reg [⟨.mv (.k (.int .i64 0)), (.var 6), none, true, 0, none⟩]) (.seq (.reg [⟨.mv (.k (.int .i64 0)), (.var 5), none, true, 0, none⟩]) (.seq (.seq (.reg [⟨.mv (.v 0), (.var 3), none, true, 0, none⟩,
    ⟨.len 32 (.v 3), (.var 2), none, false, 1, none⟩,
    ⟨.mv (.k (.int .i64 0)), (.var 1), none, true, 2, none⟩]) (.block 0 (.loop (.seq (.reg [⟨.bin .lss 3 false false (.v 1) (.v 2), .push, none, false, 0, none⟩]) (.seq (.cond (.l 0) .skip (.exit 0)) (.seq (.block 1 (.seq (.reg [⟨.indexAddr 32 (.v 3) (.v 1), .push, none, true, 0, none⟩,
    ⟨.load 3 (.l 0), .push, none, true, 1, none⟩,
    ⟨.mv (.l 0), (.var 4), none, true, 2, none⟩]) (.seq (.reg [⟨.bin .neq 3 false false (.v 4) (.v 5), .push, none, false, 2, none⟩]) (.cond (.l 0) (.seq (.reg [⟨.mv (.v 4), (.var 6), none, true, 1, none⟩]) .ret) .skip)))) (.reg [⟨.bin .add 3 false true (.v 1) (.k (.int .i64 1)), .push, none, false, 0, none⟩,
    ⟨.mv (.l 0), (.var 1), none, true, 1, none⟩]))))))) (.seq (.reg [⟨.mv (.v 5), (.var 6), none, true, 1, none⟩]) .ret)))), [.tmp (.v 6)]⟩
noncomputable def G54 (E : Env) : ZFn := ⟨18, [0, 8, 7, 6, 5, 3, 2], fun cy Y fuel =>
  (zSeq (zReg fun k => (zDst (.var 6) (vMv (.k (.int .i64 0)))) k)
  (zSeq (zReg fun k => (zDst (.var 5) (vMv (.k (.int .i64 0)))) k)
  (zSeq (zSeq (zReg fun k => (zDst (.var 3) (vMv (.v 0))) ((zDst (.var 2) (vLenL (.v 3))) ((zDst (.var 1) (vMv (.k (.int .i64 0)))) k)))
  (zBlock 0 (zLoop fuel (zSeq (zReg fun k => (zDst .push (vInt E fLss .lss 3 false false (.v 1) (.v 2))) k)
  (zSeq (zCond (.l 0) zSkip (zExit 0))
  (zSeq (zBlock 1 (zSeq (zReg fun k => (zDst .push (vIndexAddr 1 (.v 3) (.v 1))) ((zDstW .push (wLoad 1 false (.l 0))) ((zDst (.var 4) (vMv (.l 0))) k)))
  (zSeq (zReg fun k => (zDst .push (vInt E fNeq .neq 3 false false (.v 4) (.v 5))) k)
  (zCond (.l 0) (zSeq (zReg fun k => (zDst (.var 6) (vMv (.v 4))) k)
  zRet) zSkip))))
  (zReg fun k => (zDst .push (vInt E fAdd .add 3 false true (.v 1) (.k (.int .i64 1)))) ((zDst (.var 1) (vMv (.l 0))) k))))))))
  (zSeq (zReg fun k => (zDst (.var 6) (vMv (.v 5))) k)
  zRet)))), [.tmp (.v 6)]⟩
theorem G54_ok (fn : Nat → Option Func) (pu : Nat → Bool) (pr : Nat → List AV → Option (Heap → Option (Eff × Acc))) : ZOk ⟨Try.tyT, fn, pu, pr⟩ npT F54 (G54 ⟨Try.tyT, fn, pu, pr⟩) := ⟨rfl, rfl, rfl, fun cy Y k => by kernel_rfl⟩
noncomputable def F55 : FFn := ⟨20, [0, 1, 5, 6, 4], (.seq (.reg [⟨.mv (.k (.int .i64 0)), (.var 4), none, true, 0, none⟩]) (.seq (.reg [⟨.call 80 [(.v 0)], .push, none, false, 1, (some 0)⟩,
    ⟨.mv (.l 0), (.var 2), none, true, 2, none⟩]) (.seq (.reg [⟨.call 80 [(.v 1)], .push, none, false, 1, (some 0)⟩,
    ⟨.mv (.l 0), (.var 3), none, true, 2, none⟩]) (.seq (.seq (.reg []) (.cond (.v 2) (.seq (.seq (.reg []) (.cond (.v 3) (.seq (.reg [⟨.mv (.k (.int .i64 0)), (.var 4), none, true, 0, none⟩]) .ret) .skip)) (.seq (.reg [⟨.mv (.k (.int .i64 (-1))), (.var 4), none, true, 0, none⟩]) .ret)) .skip)) (.seq (.seq (.reg []) (.cond (.v 3) (.seq (.reg [⟨.mv (.k (.int .i64 1)), (.var 4), none, true, 0, none⟩]) .ret) .skip)) (.seq (.seq (.reg [⟨.bin .lss 42 false false (.v 0) (.v 1), .push, none, false, 2, none⟩]) (.cond (.l 0) (.seq (.reg [⟨.mv (.k (.int .i64 (-1))), (.var 4), none, true, 0, none⟩]) .ret) .skip)) (.seq (.seq (.reg [⟨.bin .gtr 42 false false (.v 0) (.v 1), .push, none, false, 2, none⟩]) (.cond (.l 0) (.seq (.reg [⟨.mv (.k (.int .i64 1)), (.var 4), none, true, 0, none⟩]) .ret) .skip)) (.seq (.reg [⟨.mv (.k (.int .i64 0)), (.var 4), none, true, 0, none⟩]) .ret)))))))), [.tmp (.v 4)]⟩
noncomputable def G55 (E : Env) : ZFn := ⟨20, [0, 1, 5, 6, 4], fun cy Y fuel =>
  (zSeq (zReg fun k => (zDst (.var 4) (vMv (.k (.int .i64 0)))) k)
  (zSeq (zReg fun k => (zCall (cy Y) 80 [(.v 0)] .push) ((zDst (.var 2) (vMv (.l 0))) k))
  (zSeq (zReg fun k => (zCall (cy Y) 80 [(.v 1)] .push) ((zDst (.var 3) (vMv (.l 0))) k))
  (zSeq (zSeq (zReg fun k => k)
  (zCond (.v 2) (zSeq (zSeq (zReg fun k => k)
  (zCond (.v 3) (zSeq (zReg fun k => (zDst (.var 4) (vMv (.k (.int .i64 0)))) k)
  zRet) zSkip))
  (zSeq (zReg fun k => (zDst (.var 4) (vMv (.k (.int .i64 (-1))))) k)
  zRet)) zSkip))
  (zSeq (zSeq (zReg fun k => k)
  (zCond (.v 3) (zSeq (zReg fun k => (zDst (.var 4) (vMv (.k (.int .i64 1)))) k)
  zRet) zSkip))
  (zSeq (zSeq (zReg fun k => (zDst .push (vInt E fLss .lss 42 false false (.v 0) (.v 1))) k)
  (zCond (.l 0) (zSeq (zReg fun k => (zDst (.var 4) (vMv (.k (.int .i64 (-1))))) k)
  zRet) zSkip))
  (zSeq (zSeq (zReg fun k => (zDst .push (vInt E fGtr .gtr 42 false false (.v 0) (.v 1))) k)
  (zCond (.l 0) (zSeq (zReg fun k => (zDst (.var 4) (vMv (.k (.int .i64 1)))) k)
  zRet) zSkip))
  (zSeq (zReg fun k => (zDst (.var 4) (vMv (.k (.int .i64 0)))) k)
  zRet)))))))), [.tmp (.v 4)]⟩
theorem G55_ok (fn : Nat → Option Func) (pu : Nat → Bool) (pr : Nat → List AV → Option (Heap → Option (Eff × Acc))) : ZOk ⟨Try.tyT, fn, pu, pr⟩ npT F55 (G55 ⟨Try.tyT, fn, pu, pr⟩) := ⟨rfl, rfl, rfl, fun cy Y k => by kernel_rfl⟩
noncomputable def F56 : FFn := ⟨47, [0, 1, 18, 17, 16, 9, 11, 2, 13, 12, 3, 8], (.seq (.reg [⟨.mv (.k (.sl 0 [] true)), (.var 11), none, true, 0, none⟩]) (.seq (.reg [⟨.call 63 [(.v 0)], .push, none, false, 1, (some 0)⟩,
    ⟨.mv (.l 0), (.var 5), none, true, 2, none⟩]) (.seq (.seq (.reg [⟨.mv (.v 1), (.var 4), none, true, 0, none⟩,
    ⟨.len 22 (.v 4), (.var 3), none, false, 1, none⟩,
    ⟨.mv (.k (.int .i64 0)), (.var 2), none, true, 2, none⟩]) (.block 0 (.loop (.seq (.reg [⟨.bin .lss 3 false false (.v 2) (.v 3), .push, none, false, 0, none⟩]) (.seq (.cond (.l 0) .skip (.exit 0)) (.seq (.block 1 (.seq (.reg [⟨.indexAddr 22 (.v 4) (.v 2), .push, none, true, 0, none⟩,
    ⟨.load 56 (.l 0), .push, none, true, 1, none⟩,
    ⟨.alloc 56, (.var 6), none, false, 2, (some 0)⟩,
    ⟨.store 56 (.v 6) (.l 0), .none, none, false, 3, none⟩]) (.seq (.reg [⟨.load 56 (.v 6), .push, none, true, 1, none⟩,
    ⟨.call 81 [(.v 5), (.l 0), (.v 7)], .push, none, false, 3, (some 0)⟩,
    ⟨.extract (.l 0) 0, .push, none, true, 5, none⟩,
    ⟨.extract (.l 1) 1, .push, none, true, 6, none⟩,
    ⟨.mv (.l 1), (.var 9), none, true, 7, none⟩,
    ⟨.mv (.l 0), (.var 8), none, true, 8, none⟩]) (.seq (.reg []) (.cond (.v 8) (.dreg 1 [0, 0, 0, 0, 0, 24, 56, 0, 252, 511, 1023] [⟨.indexAddr 22 (.v 5) (.v 9), .push, none, true, 5, none⟩,
    ⟨.load 56 (.l 0), .push, none, true, 6, none⟩,
    ⟨.load 56 (.v 6), .push, none, true, 7, none⟩,
    ⟨.callv (.v 10) [(.l 1), (.l 0)], .push, none, false, 8, (some 0)⟩,
    ⟨.indexAddr 22 (.v 5) (.v 9), .push, none, true, 9, none⟩,
    ⟨.store 56 (.l 0) (.l 1), .none, none, false, 10, none⟩]) (.reg [⟨.mv (.v 5), .push, none, true, 0, none⟩,
    ⟨.load 56 (.v 6), .push, none, true, 2, none⟩,
    ⟨.buildSlice 22 1 [(0, (.l 0))], .push, none, false, 3, (some 0)⟩,
    ⟨.call 82 [(.l 2), (.v 9), (.l 0)], .push, none, false, 4, (some 1)⟩,
    ⟨.mv (.l 0), (.var 5), none, true, 5, none⟩])))))) (.reg [⟨.bin .add 3 false true (.v 2) (.k (.int .i64 1)), .push, none, false, 0, none⟩,
    ⟨.mv (.l 0), (.var 2), none, true, 1, none⟩]))))))) (.seq (.reg [⟨.mv (.v 5), (.var 11), none, true, 1, none⟩]) .ret)))), [.tmp (.v 11)]⟩
noncomputable def G56 (E : Env) : ZFn := ⟨47, [0, 1, 18, 17, 16, 9, 11, 2, 13, 12, 3, 8], fun cy Y fuel =>
  (zSeq (zReg fun k => (zDst (.var 11) (vMv (.k (.sl 0 [] true)))) k)
  (zSeq (zReg fun k => (zStep E (cy Y) ⟨.call 63 [(.v 0)], .push, none, false, 1, (some 0)⟩) ((zDst (.var 5) (vMv (.l 0))) k))
  (zSeq (zSeq (zReg fun k => (zDst (.var 4) (vMv (.v 1))) ((zDst (.var 3) (vLenL (.v 4))) ((zDst (.var 2) (vMv (.k (.int .i64 0)))) k)))
  (zBlock 0 (zLoop fuel (zSeq (zReg fun k => (zDst .push (vInt E fLss .lss 3 false false (.v 2) (.v 3))) k)
  (zSeq (zCond (.l 0) zSkip (zExit 0))
  (zSeq (zBlock 1 (zSeq (zReg fun k => (zDst .push (vIndexAddr 2 (.v 4) (.v 2))) ((zDstW .push (wLoad 2 true (.l 0))) ((zStep E (cy Y) ⟨.alloc 56, (.var 6), none, false, 2, (some 0)⟩) ((zStep E (cy Y) ⟨.store 56 (.v 6) (.l 0), .none, none, false, 3, none⟩) k))))
  (zSeq (zReg fun k => (zDstW .push (wLoad 2 true (.v 6))) ((zCall (cy Y) 81 [(.v 5), (.l 0), (.v 7)] .push) ((zDst .push (vExtract 0 (.l 0))) ((zDst .push (vExtract 1 (.l 1))) ((zDst (.var 9) (vMv (.l 1))) ((zDst (.var 8) (vMv (.l 0))) k))))))
  (zSeq (zReg fun k => k)
  (zCond (.v 8) (zDreg 1 fun n0 k => (fun k sp => zDst .push (vIndexAddr 2 (.v 5) (.v 9)) (k sp)) ((zDstWD [0, 0, 0, 0, 0, 24, 56, 0, 252, 511, 1023] 6 .push (wLoad 2 true (.l 0))) ((zDstWD [0, 0, 0, 0, 0, 24, 56, 0, 252, 511, 1023] 7 .push (wLoad 2 true (.v 6))) ((zStepD E (cy Y) [0, 0, 0, 0, 0, 24, 56, 0, 252, 511, 1023] n0 ⟨.callv (.v 10) [(.l 1), (.l 0)], .push, none, false, 8, (some 0)⟩) ((fun k sp => zDst .push (vIndexAddr 2 (.v 5) (.v 9)) (k sp)) ((zStepD E (cy Y) [0, 0, 0, 0, 0, 24, 56, 0, 252, 511, 1023] n0 ⟨.store 56 (.l 0) (.l 1), .none, none, false, 10, none⟩) k)))))) (zReg fun k => (zDst .push (vMv (.v 5))) ((zDstW .push (wLoad 2 true (.v 6))) ((zStep E (cy Y) ⟨.buildSlice 22 1 [(0, (.l 0))], .push, none, false, 3, (some 0)⟩) ((zStep E (cy Y) ⟨.call 82 [(.l 2), (.v 9), (.l 0)], .push, none, false, 4, (some 1)⟩) ((zDst (.var 5) (vMv (.l 0))) k))))))))))
  (zReg fun k => (zDst .push (vInt E fAdd .add 3 false true (.v 2) (.k (.int .i64 1)))) ((zDst (.var 2) (vMv (.l 0))) k))))))))
  (zSeq (zReg fun k => (zDst (.var 11) (vMv (.v 5))) k)
  zRet)))), [.tmp (.v 11)]⟩
theorem G56_ok (fn : Nat → Option Func) (pu : Nat → Bool) (pr : Nat → List AV → Option (Heap → Option (Eff × Acc))) : ZOk ⟨Try.tyT, fn, pu, pr⟩ npT F56 (G56 ⟨Try.tyT, fn, pu, pr⟩) := ⟨rfl, rfl, rfl, fun cy Y k => by kernel_rfl⟩
noncomputable def F57 : FFn := ⟨13, [0, 1, 2, 3, 4], (.seq (.reg [⟨.box 56 (.v 0), (.var 2), none, false, 0, (some 0)⟩,
    ⟨.box 56 (.v 1), (.var 3), none, false, 1, (some 1)⟩,
    ⟨.alloc 56, (.var 4), none, false, 2, (some 2)⟩]) (.seq (.reg [⟨.fieldAddr 56 (.v 2) 0, .push, none, true, 0, none⟩,
    ⟨.load 3 (.l 0), .push, none, true, 1, none⟩,
    ⟨.fieldAddr 56 (.v 2) 1, .push, none, true, 2, none⟩,
    ⟨.load 42 (.l 0), .push, none, true, 3, none⟩,
    ⟨.fieldAddr 56 (.v 3) 1, .push, none, true, 4, none⟩,
    ⟨.load 42 (.l 0), .push, none, true, 5, none⟩,
    ⟨.most true [(.l 2), (.l 0)], .push, none, false, 6, none⟩,
    ⟨.build 56 [(0, (.l 5)), (1, (.l 0))], .push, none, false, 7, none⟩,
    ⟨.store 56 (.v 4) (.l 0), .none, none, false, 8, none⟩]) .ret)), [.cell (.v 4) 56]⟩
noncomputable def G57 (E : Env) : ZFn := ⟨13, [0, 1, 2, 3, 4], fun cy Y fuel =>
  (zSeq (zReg fun k => (zStep E (cy Y) ⟨.box 56 (.v 0), (.var 2), none, false, 0, (some 0)⟩) ((zStep E (cy Y) ⟨.box 56 (.v 1), (.var 3), none, false, 1, (some 1)⟩) ((zStep E (cy Y) ⟨.alloc 56, (.var 4), none, false, 2, (some 2)⟩) k)))
  (zSeq (zReg fun k => (zDst .push (vFieldAddr 0 (.v 2))) ((zDstW .push (wLoad 1 false (.l 0))) ((zDst .push (vFieldAddr 1 (.v 2))) ((zDstW .push (wLoad 1 false (.l 0))) ((zDst .push (vFieldAddr 1 (.v 3))) ((zDstW .push (wLoad 1 false (.l 0))) ((zStep E (cy Y) ⟨.most true [(.l 2), (.l 0)], .push, none, false, 6, none⟩) ((zStep E (cy Y) ⟨.build 56 [(0, (.l 5)), (1, (.l 0))], .push, none, false, 7, none⟩) ((zStep E (cy Y) ⟨.store 56 (.v 4) (.l 0), .none, none, false, 8, none⟩) k)))))))))
  zRet)), [.cell (.v 4) 56]⟩
theorem G57_ok (fn : Nat → Option Func) (pu : Nat → Bool) (pr : Nat → List AV → Option (Heap → Option (Eff × Acc))) : ZOk ⟨Try.tyT, fn, pu, pr⟩ npT F57 (G57 ⟨Try.tyT, fn, pu, pr⟩) := ⟨rfl, rfl, rfl, fun cy Y k => by kernel_rfl⟩
noncomputable def F58 : FFn := ⟨60, [1, 5, 0, 3, 6, 4], (.seq (.reg [⟨.box 56 (.v 0), (.var 3), none, false, 0, (some 0)⟩,
    ⟨.mv (.k (.sl 0 [] true)), (.var 5), none, true, 1, none⟩]) (.seq (.seq (.reg [⟨.mv (.k (.int .i64 0)), (.var 1), none, true, 0, none⟩]) (.block 0 (.loop (.seq (.seq (.reg [⟨.len 22 (.v 2), .push, none, false, 2, none⟩,
    ⟨.bin .lss 3 false false (.v 1) (.l 0), .push, none, false, 3, none⟩]) (.cond (.l 0) .skip (.exit 0))) (.seq (.block 1 (.seq (.seq (.dreg 0 [0, 0, 3, 7, 15, 0, 32, 127] [⟨.indexAddr 22 (.v 2) (.v 1), .push, none, true, 2, none⟩,
    ⟨.fieldAddr 56 (.l 0) 0, .push, none, true, 3, none⟩,
    ⟨.load 3 (.l 0), .push, none, true, 4, none⟩,
    ⟨.fieldAddr 56 (.v 3) 0, .push, none, true, 5, none⟩,
    ⟨.load 3 (.l 0), .push, none, true, 6, none⟩,
    ⟨.bin .eql 3 false false (.l 2) (.l 0), .push, none, false, 7, none⟩]) (.cond (.l 0) (.seq (.reg [⟨.append 22 22 (.k (.sl 0 [] true)) (.v 2), .push, none, false, 1, (some 0)⟩,
    ⟨.mv (.l 0), (.var 4), none, true, 2, none⟩]) (.seq (.dreg 0 [0, 0, 0, 0, 12, 28, 60, 0, 128, 508, 1023, 2047, 4095] [⟨.indexAddr 22 (.v 2) (.v 1), .push, none, true, 4, none⟩,
    ⟨.fieldAddr 56 (.l 0) 1, .push, none, true, 5, none⟩,
    ⟨.load 42 (.l 0), .push, none, true, 6, none⟩,
    ⟨.fieldAddr 56 (.v 3) 1, .push, none, true, 7, none⟩,
    ⟨.load 42 (.l 0), .push, none, true, 8, none⟩,
    ⟨.most true [(.l 2), (.l 0)], .push, none, false, 9, none⟩,
    ⟨.indexAddr 22 (.v 4) (.v 1), .push, none, true, 10, none⟩,
    ⟨.fieldAddr 56 (.l 0) 1, .push, none, true, 11, none⟩,
    ⟨.store 42 (.l 0) (.l 2), .none, none, false, 12, none⟩]) (.seq (.reg [⟨.mv (.v 4), (.var 5), none, true, 1, none⟩]) .ret))) .skip)) (.seq (.dreg 0 [0, 0, 3, 7, 15, 0, 32, 127] [⟨.indexAddr 22 (.v 2) (.v 1), .push, none, true, 2, none⟩,
    ⟨.fieldAddr 56 (.l 0) 0, .push, none, true, 3, none⟩,
    ⟨.load 3 (.l 0), .push, none, true, 4, none⟩,
    ⟨.fieldAddr 56 (.v 3) 0, .push, none, true, 5, none⟩,
    ⟨.load 3 (.l 0), .push, none, true, 6, none⟩,
    ⟨.bin .gtr 3 false false (.l 2) (.l 0), .push, none, false, 7, none⟩]) (.cond (.l 0) (.seq (.dreg 4 [0, 0, 3, 7, 0, 16, 63, 0, 0, 384, 1023, 2047] [⟨.slice 22 (.v 2) none (some (.v 1)) none, .push, none, false, 2, none⟩,
    ⟨.append 22 22 (.k (.sl 0 [] true)) (.l 0), .push, none, false, 3, (some 0)⟩,
    ⟨.load 56 (.v 3), .push, none, true, 4, none⟩,
    ⟨.buildSlice 22 1 [(0, (.l 0))], .push, none, false, 5, (some 1)⟩,
    ⟨.append 22 22 (.l 2) (.l 0), .push, none, false, 6, (some 2)⟩,
    ⟨.slice 22 (.v 2) (some (.v 1)) none none, .push, none, false, 9, none⟩,
    ⟨.append 22 22 (.l 1) (.l 0), .push, none, false, 10, (some 3)⟩,
    ⟨.mv (.l 0), (.var 5), none, true, 11, none⟩]) .ret) .skip)))) (.reg [⟨.mv (.v 1), .push, none, true, 0, none⟩,
    ⟨.bin .add 3 false true (.l 0) (.k (.int .i64 1)), .push, none, false, 1, none⟩,
    ⟨.mv (.l 0), (.var 1), none, true, 2, none⟩])))))) (.seq (.dreg 3 [0, 1, 0, 4, 15, 31] [⟨.append 22 22 (.k (.sl 0 [] true)) (.v 2), .push, none, false, 1, (some 0)⟩,
    ⟨.load 56 (.v 3), .push, none, true, 2, none⟩,
    ⟨.buildSlice 22 1 [(0, (.l 0))], .push, none, false, 3, (some 1)⟩,
    ⟨.append 22 22 (.l 2) (.l 0), .push, none, false, 4, (some 2)⟩,
    ⟨.mv (.l 0), (.var 5), none, true, 5, none⟩]) .ret))), [.tmp (.v 5)]⟩
noncomputable def G58 (E : Env) : ZFn := ⟨60, [1, 5, 0, 3, 6, 4], fun cy Y fuel =>
  (zSeq (zReg fun k => (zStep E (cy Y) ⟨.box 56 (.v 0), (.var 3), none, false, 0, (some 0)⟩) ((zDst (.var 5) (vMv (.k (.sl 0 [] true)))) k))
  (zSeq (zSeq (zReg fun k => (zDst (.var 1) (vMv (.k (.int .i64 0)))) k)
  (zBlock 0 (zLoop fuel (zSeq (zSeq (zReg fun k => (zDst .push (vLenL (.v 2))) ((zDst .push (vInt E fLss .lss 3 false false (.v 1) (.l 0))) k))
  (zCond (.l 0) zSkip (zExit 0)))
  (zSeq (zBlock 1 (zSeq (zSeq (zDreg 0 fun n0 k => (fun k sp => zDst .push (vIndexAddr 2 (.v 2) (.v 1)) (k sp)) ((fun k sp => zDst .push (vFieldAddr 0 (.l 0)) (k sp)) ((zDstWD [0, 0, 3, 7, 15, 0, 32, 127] 4 .push (wLoad 1 false (.l 0))) ((fun k sp => zDst .push (vFieldAddr 0 (.v 3)) (k sp)) ((zDstWD [0, 0, 3, 7, 15, 0, 32, 127] 6 .push (wLoad 1 false (.l 0))) ((fun k sp => zDst .push (vInt E fEql .eql 3 false false (.l 2) (.l 0)) (k sp)) k))))))
  (zCond (.l 0) (zSeq (zReg fun k => (zStep E (cy Y) ⟨.append 22 22 (.k (.sl 0 [] true)) (.v 2), .push, none, false, 1, (some 0)⟩) ((zDst (.var 4) (vMv (.l 0))) k))
  (zSeq (zDreg 0 fun n0 k => (fun k sp => zDst .push (vIndexAddr 2 (.v 2) (.v 1)) (k sp)) ((fun k sp => zDst .push (vFieldAddr 1 (.l 0)) (k sp)) ((zDstWD [0, 0, 0, 0, 12, 28, 60, 0, 128, 508, 1023, 2047, 4095] 6 .push (wLoad 1 false (.l 0))) ((fun k sp => zDst .push (vFieldAddr 1 (.v 3)) (k sp)) ((zDstWD [0, 0, 0, 0, 12, 28, 60, 0, 128, 508, 1023, 2047, 4095] 8 .push (wLoad 1 false (.l 0))) ((zStepD E (cy Y) [0, 0, 0, 0, 12, 28, 60, 0, 128, 508, 1023, 2047, 4095] n0 ⟨.most true [(.l 2), (.l 0)], .push, none, false, 9, none⟩) ((fun k sp => zDst .push (vIndexAddr 2 (.v 4) (.v 1)) (k sp)) ((fun k sp => zDst .push (vFieldAddr 1 (.l 0)) (k sp)) ((zStepD E (cy Y) [0, 0, 0, 0, 12, 28, 60, 0, 128, 508, 1023, 2047, 4095] n0 ⟨.store 42 (.l 0) (.l 2), .none, none, false, 12, none⟩) k)))))))))
  (zSeq (zReg fun k => (zDst (.var 5) (vMv (.v 4))) k)
  zRet))) zSkip))
  (zSeq (zDreg 0 fun n0 k => (fun k sp => zDst .push (vIndexAddr 2 (.v 2) (.v 1)) (k sp)) ((fun k sp => zDst .push (vFieldAddr 0 (.l 0)) (k sp)) ((zDstWD [0, 0, 3, 7, 15, 0, 32, 127] 4 .push (wLoad 1 false (.l 0))) ((fun k sp => zDst .push (vFieldAddr 0 (.v 3)) (k sp)) ((zDstWD [0, 0, 3, 7, 15, 0, 32, 127] 6 .push (wLoad 1 false (.l 0))) ((fun k sp => zDst .push (vInt E fGtr .gtr 3 false false (.l 2) (.l 0)) (k sp)) k))))))
  (zCond (.l 0) (zSeq (zDreg 4 fun n0 k => (zStepD E (cy Y) [0, 0, 3, 7, 0, 16, 63, 0, 0, 384, 1023, 2047] n0 ⟨.slice 22 (.v 2) none (some (.v 1)) none, .push, none, false, 2, none⟩) ((zStepD E (cy Y) [0, 0, 3, 7, 0, 16, 63, 0, 0, 384, 1023, 2047] n0 ⟨.append 22 22 (.k (.sl 0 [] true)) (.l 0), .push, none, false, 3, (some 0)⟩) ((zDstWD [0, 0, 3, 7, 0, 16, 63, 0, 0, 384, 1023, 2047] 4 .push (wLoad 2 true (.v 3))) ((zStepD E (cy Y) [0, 0, 3, 7, 0, 16, 63, 0, 0, 384, 1023, 2047] n0 ⟨.buildSlice 22 1 [(0, (.l 0))], .push, none, false, 5, (some 1)⟩) ((zStepD E (cy Y) [0, 0, 3, 7, 0, 16, 63, 0, 0, 384, 1023, 2047] n0 ⟨.append 22 22 (.l 2) (.l 0), .push, none, false, 6, (some 2)⟩) ((zStepD E (cy Y) [0, 0, 3, 7, 0, 16, 63, 0, 0, 384, 1023, 2047] n0 ⟨.slice 22 (.v 2) (some (.v 1)) none none, .push, none, false, 9, none⟩) ((zStepD E (cy Y) [0, 0, 3, 7, 0, 16, 63, 0, 0, 384, 1023, 2047] n0 ⟨.append 22 22 (.l 1) (.l 0), .push, none, false, 10, (some 3)⟩) ((fun k sp => zDst (.var 5) (vMv (.l 0)) (k sp)) k))))))))
  zRet) zSkip))))
  (zReg fun k => (zDst .push (vMv (.v 1))) ((zDst .push (vInt E fAdd .add 3 false true (.l 0) (.k (.int .i64 1)))) ((zDst (.var 1) (vMv (.l 0))) k))))))))
  (zSeq (zDreg 3 fun n0 k => (zStepD E (cy Y) [0, 1, 0, 4, 15, 31] n0 ⟨.append 22 22 (.k (.sl 0 [] true)) (.v 2), .push, none, false, 1, (some 0)⟩) ((zDstWD [0, 1, 0, 4, 15, 31] 2 .push (wLoad 2 true (.v 3))) ((zStepD E (cy Y) [0, 1, 0, 4, 15, 31] n0 ⟨.buildSlice 22 1 [(0, (.l 0))], .push, none, false, 3, (some 1)⟩) ((zStepD E (cy Y) [0, 1, 0, 4, 15, 31] n0 ⟨.append 22 22 (.l 2) (.l 0), .push, none, false, 4, (some 2)⟩) ((fun k sp => zDst (.var 5) (vMv (.l 0)) (k sp)) k)))))
  zRet))), [.tmp (.v 5)]⟩
theorem G58_ok (fn : Nat → Option Func) (pu : Nat → Bool) (pr : Nat → List AV → Option (Heap → Option (Eff × Acc))) : ZOk ⟨Try.tyT, fn, pu, pr⟩ npT F58 (G58 ⟨Try.tyT, fn, pu, pr⟩) := ⟨rfl, rfl, rfl, fun cy Y k => by kernel_rfl⟩
noncomputable def F59 : FFn := ⟨80, [1, 5, 0, 3, 6, 4], (.seq (.reg [⟨.box 60 (.v 0), (.var 3), none, false, 0, (some 0)⟩,
    ⟨.mv (.k (.sl 0 [] true)), (.var 5), none, true, 1, none⟩]) (.seq (.seq (.reg [⟨.mv (.k (.int .i64 0)), (.var 1), none, true, 0, none⟩]) (.block 0 (.loop (.seq (.seq (.reg [⟨.len 23 (.v 2), .push, none, false, 2, none⟩,
    ⟨.bin .lss 3 false false (.v 1) (.l 0), .push, none, false, 3, none⟩]) (.cond (.l 0) .skip (.exit 0))) (.seq (.block 1 (.seq (.seq (.dreg 0 [0, 0, 3, 7, 15, 0, 32, 127] [⟨.indexAddr 23 (.v 2) (.v 1), .push, none, true, 2, none⟩,
    ⟨.fieldAddr 60 (.l 0) 0, .push, none, true, 3, none⟩,
    ⟨.load 9 (.l 0), .push, none, true, 4, none⟩,
    ⟨.fieldAddr 60 (.v 3) 0, .push, none, true, 5, none⟩,
    ⟨.load 9 (.l 0), .push, none, true, 6, none⟩,
    ⟨.bin .eql 9 false false (.l 2) (.l 0), .push, none, false, 7, none⟩]) (.cond (.l 0) (.seq (.reg [⟨.append 23 23 (.k (.sl 0 [] true)) (.v 2), .push, none, false, 1, (some 0)⟩,
    ⟨.mv (.l 0), (.var 4), none, true, 2, none⟩]) (.seq (.seq (.dreg 0 [0, 1, 0, 0, 12, 28, 60, 127, 255, 511, 1023, 511, 511, 6655, 14847, 31231, 65535, 131071, 262143, 524287, 262143, 262143, 3407871, 7602175, 15990783, 33554431, 67108863, 134217727] [⟨.fieldAddr 60 (.v 3) 1, .push, none, true, 0, none⟩,
    ⟨.load 42 (.l 0), .push, none, true, 1, none⟩,
    ⟨.indexAddr 23 (.v 2) (.v 1), .push, none, true, 4, none⟩,
    ⟨.fieldAddr 60 (.l 0) 1, .push, none, true, 5, none⟩,
    ⟨.load 42 (.l 0), .push, none, true, 6, none⟩,
    ⟨.bin .gtr 42 false false (.l 3) (.l 0), .push, none, false, 7, none⟩,
    ⟨.fieldAddr 60 (.v 3) 1, .push, (some ((.l 0), false)), true, 9, none⟩,
    ⟨.load 42 (.l 0), .push, (some ((.l 1), false)), true, 10, none⟩,
    ⟨.mv (.v 2), .push, (some ((.l 2), false)), true, 11, none⟩,
    ⟨.mv (.v 1), .push, (some ((.l 3), false)), true, 12, none⟩,
    ⟨.indexAddr 23 (.l 1) (.l 0), .push, (some ((.l 4), false)), true, 13, none⟩,
    ⟨.fieldAddr 60 (.l 0) 1, .push, (some ((.l 5), false)), true, 14, none⟩,
    ⟨.load 42 (.l 0), .push, (some ((.l 6), false)), true, 15, none⟩,
    ⟨.bin .eql 42 false false (.l 5) (.l 0), .push, (some ((.l 7), false)), false, 16, none⟩,
    ⟨.mv (.l 0), .push, (some ((.l 8), false)), true, 17, none⟩,
    ⟨.fieldAddr 60 (.v 3) 2, .push, (some ((.l 0), true)), true, 18, none⟩,
    ⟨.load 42 (.l 0), .push, (some ((.l 1), true)), true, 19, none⟩,
    ⟨.mv (.v 2), .push, (some ((.l 2), true)), true, 20, none⟩,
    ⟨.mv (.v 1), .push, (some ((.l 3), true)), true, 21, none⟩,
    ⟨.indexAddr 23 (.l 1) (.l 0), .push, (some ((.l 4), true)), true, 22, none⟩,
    ⟨.fieldAddr 60 (.l 0) 2, .push, (some ((.l 5), true)), true, 23, none⟩,
    ⟨.load 42 (.l 0), .push, (some ((.l 6), true)), true, 24, none⟩,
    ⟨.bin .gtr 42 false false (.l 5) (.l 0), .push, (some ((.l 7), true)), false, 25, none⟩,
    ⟨.pick (.l 8) (.l 0) (.k (.bool false)), .push, (some ((.l 17), false)), true, 26, none⟩,
    ⟨.pick (.l 18) (.k (.bool true)) (.l 0), .push, none, true, 27, none⟩]) (.cond (.l 0) (.reg [⟨.load 60 (.v 3), .push, none, true, 2, none⟩,
    ⟨.indexAddr 23 (.v 4) (.v 1), .push, none, true, 3, none⟩,
    ⟨.store 60 (.l 0) (.l 1), .none, none, false, 4, none⟩]) .skip)) (.seq (.reg [⟨.mv (.v 4), (.var 5), none, true, 1, none⟩]) .ret))) .skip)) (.seq (.dreg 0 [0, 0, 3, 7, 15, 0, 32, 127] [⟨.indexAddr 23 (.v 2) (.v 1), .push, none, true, 2, none⟩,
    ⟨.fieldAddr 60 (.l 0) 0, .push, none, true, 3, none⟩,
    ⟨.load 9 (.l 0), .push, none, true, 4, none⟩,
    ⟨.fieldAddr 60 (.v 3) 0, .push, none, true, 5, none⟩,
    ⟨.load 9 (.l 0), .push, none, true, 6, none⟩,
    ⟨.bin .gtr 9 false false (.l 2) (.l 0), .push, none, false, 7, none⟩]) (.cond (.l 0) (.seq (.dreg 4 [0, 0, 3, 7, 0, 16, 63, 0, 0, 384, 1023, 2047] [⟨.slice 23 (.v 2) none (some (.v 1)) none, .push, none, false, 2, none⟩,
    ⟨.append 23 23 (.k (.sl 0 [] true)) (.l 0), .push, none, false, 3, (some 0)⟩,
    ⟨.load 60 (.v 3), .push, none, true, 4, none⟩,
    ⟨.buildSlice 23 1 [(0, (.l 0))], .push, none, false, 5, (some 1)⟩,
    ⟨.append 23 23 (.l 2) (.l 0), .push, none, false, 6, (some 2)⟩,
    ⟨.slice 23 (.v 2) (some (.v 1)) none none, .push, none, false, 9, none⟩,
    ⟨.append 23 23 (.l 1) (.l 0), .push, none, false, 10, (some 3)⟩,
    ⟨.mv (.l 0), (.var 5), none, true, 11, none⟩]) .ret) .skip)))) (.reg [⟨.mv (.v 1), .push, none, true, 0, none⟩,
    ⟨.bin .add 3 false true (.l 0) (.k (.int .i64 1)), .push, none, false, 1, none⟩,
    ⟨.mv (.l 0), (.var 1), none, true, 2, none⟩])))))) (.seq (.dreg 3 [0, 1, 0, 4, 15, 31] [⟨.append 23 23 (.k (.sl 0 [] true)) (.v 2), .push, none, false, 1, (some 0)⟩,
    ⟨.load 60 (.v 3), .push, none, true, 2, none⟩,
    ⟨.buildSlice 23 1 [(0, (.l 0))], .push, none, false, 3, (some 1)⟩,
    ⟨.append 23 23 (.l 2) (.l 0), .push, none, false, 4, (some 2)⟩,
    ⟨.mv (.l 0), (.var 5), none, true, 5, none⟩]) .ret))), [.tmp (.v 5)]⟩
noncomputable def G59 (E : Env) : ZFn := ⟨80, [1, 5, 0, 3, 6, 4], fun cy Y fuel =>
  (zSeq (zReg fun k => (zStep E (cy Y) ⟨.box 60 (.v 0), (.var 3), none, false, 0, (some 0)⟩) ((zDst (.var 5) (vMv (.k (.sl 0 [] true)))) k))
  (zSeq (zSeq (zReg fun k => (zDst (.var 1) (vMv (.k (.int .i64 0)))) k)
  (zBlock 0 (zLoop fuel (zSeq (zSeq (zReg fun k => (zDst .push (vLenL (.v 2))) ((zDst .push (vInt E fLss .lss 3 false false (.v 1) (.l 0))) k))
  (zCond (.l 0) zSkip (zExit 0)))
  (zSeq (zBlock 1 (zSeq (zSeq (zDreg 0 fun n0 k => (fun k sp => zDst .push (vIndexAddr 3 (.v 2) (.v 1)) (k sp)) ((fun k sp => zDst .push (vFieldAddr 0 (.l 0)) (k sp)) ((zDstWD [0, 0, 3, 7, 15, 0, 32, 127] 4 .push (wLoad 1 false (.l 0))) ((fun k sp => zDst .push (vFieldAddr 0 (.v 3)) (k sp)) ((zDstWD [0, 0, 3, 7, 15, 0, 32, 127] 6 .push (wLoad 1 false (.l 0))) ((fun k sp => zDst .push (vInt E fEql .eql 9 false false (.l 2) (.l 0)) (k sp)) k))))))
  (zCond (.l 0) (zSeq (zReg fun k => (zStep E (cy Y) ⟨.append 23 23 (.k (.sl 0 [] true)) (.v 2), .push, none, false, 1, (some 0)⟩) ((zDst (.var 4) (vMv (.l 0))) k))
  (zSeq (zSeq (zDreg 0 fun n0 k => (fun k sp => zDst .push (vFieldAddr 1 (.v 3)) (k sp)) ((zDstWD [0, 1, 0, 0, 12, 28, 60, 127, 255, 511, 1023, 511, 511, 6655, 14847, 31231, 65535, 131071, 262143, 524287, 262143, 262143, 3407871, 7602175, 15990783, 33554431, 67108863, 134217727] 1 .push (wLoad 1 false (.l 0))) ((fun k sp => zDst .push (vIndexAddr 3 (.v 2) (.v 1)) (k sp)) ((fun k sp => zDst .push (vFieldAddr 1 (.l 0)) (k sp)) ((zDstWD [0, 1, 0, 0, 12, 28, 60, 127, 255, 511, 1023, 511, 511, 6655, 14847, 31231, 65535, 131071, 262143, 524287, 262143, 262143, 3407871, 7602175, 15990783, 33554431, 67108863, 134217727] 6 .push (wLoad 1 false (.l 0))) ((fun k sp => zDst .push (vInt E fGtr .gtr 42 false false (.l 3) (.l 0)) (k sp)) ((zGD (.l 0) false .push (fun k sp => zDst .push (vFieldAddr 1 (.v 3)) (k sp))) ((zGD (.l 1) false .push (zDstWD [0, 1, 0, 0, 12, 28, 60, 127, 255, 511, 1023, 511, 511, 6655, 14847, 31231, 65535, 131071, 262143, 524287, 262143, 262143, 3407871, 7602175, 15990783, 33554431, 67108863, 134217727] 10 .push (wLoad 1 false (.l 0)))) ((zGD (.l 2) false .push (fun k sp => zDst .push (vMv (.v 2)) (k sp))) ((zGD (.l 3) false .push (fun k sp => zDst .push (vMv (.v 1)) (k sp))) ((zGD (.l 4) false .push (fun k sp => zDst .push (vIndexAddr 3 (.l 1) (.l 0)) (k sp))) ((zGD (.l 5) false .push (fun k sp => zDst .push (vFieldAddr 1 (.l 0)) (k sp))) ((zGD (.l 6) false .push (zDstWD [0, 1, 0, 0, 12, 28, 60, 127, 255, 511, 1023, 511, 511, 6655, 14847, 31231, 65535, 131071, 262143, 524287, 262143, 262143, 3407871, 7602175, 15990783, 33554431, 67108863, 134217727] 15 .push (wLoad 1 false (.l 0)))) ((zGD (.l 7) false .push (fun k sp => zDst .push (vInt E fEql .eql 42 false false (.l 5) (.l 0)) (k sp))) ((zGD (.l 8) false .push (fun k sp => zDst .push (vMv (.l 0)) (k sp))) ((zGD (.l 0) true .push (fun k sp => zDst .push (vFieldAddr 2 (.v 3)) (k sp))) ((zGD (.l 1) true .push (zDstWD [0, 1, 0, 0, 12, 28, 60, 127, 255, 511, 1023, 511, 511, 6655, 14847, 31231, 65535, 131071, 262143, 524287, 262143, 262143, 3407871, 7602175, 15990783, 33554431, 67108863, 134217727] 19 .push (wLoad 1 false (.l 0)))) ((zGD (.l 2) true .push (fun k sp => zDst .push (vMv (.v 2)) (k sp))) ((zGD (.l 3) true .push (fun k sp => zDst .push (vMv (.v 1)) (k sp))) ((zGD (.l 4) true .push (fun k sp => zDst .push (vIndexAddr 3 (.l 1) (.l 0)) (k sp))) ((zGD (.l 5) true .push (fun k sp => zDst .push (vFieldAddr 2 (.l 0)) (k sp))) ((zGD (.l 6) true .push (zDstWD [0, 1, 0, 0, 12, 28, 60, 127, 255, 511, 1023, 511, 511, 6655, 14847, 31231, 65535, 131071, 262143, 524287, 262143, 262143, 3407871, 7602175, 15990783, 33554431, 67108863, 134217727] 24 .push (wLoad 1 false (.l 0)))) ((zGD (.l 7) true .push (fun k sp => zDst .push (vInt E fGtr .gtr 42 false false (.l 5) (.l 0)) (k sp))) ((zGD (.l 17) false .push (fun k sp => zDst .push (vPick (.l 8) (.l 0) (.k (.bool false))) (k sp))) ((fun k sp => zDst .push (vPick (.l 18) (.k (.bool true)) (.l 0)) (k sp)) k)))))))))))))))))))))))))
  (zCond (.l 0) (zReg fun k => (zDstW .push (wLoad 3 true (.v 3))) ((zDst .push (vIndexAddr 3 (.v 4) (.v 1))) ((zStep E (cy Y) ⟨.store 60 (.l 0) (.l 1), .none, none, false, 4, none⟩) k))) zSkip))
  (zSeq (zReg fun k => (zDst (.var 5) (vMv (.v 4))) k)
  zRet))) zSkip))
  (zSeq (zDreg 0 fun n0 k => (fun k sp => zDst .push (vIndexAddr 3 (.v 2) (.v 1)) (k sp)) ((fun k sp => zDst .push (vFieldAddr 0 (.l 0)) (k sp)) ((zDstWD [0, 0, 3, 7, 15, 0, 32, 127] 4 .push (wLoad 1 false (.l 0))) ((fun k sp => zDst .push (vFieldAddr 0 (.v 3)) (k sp)) ((zDstWD [0, 0, 3, 7, 15, 0, 32, 127] 6 .push (wLoad 1 false (.l 0))) ((fun k sp => zDst .push (vInt E fGtr .gtr 9 false false (.l 2) (.l 0)) (k sp)) k))))))
  (zCond (.l 0) (zSeq (zDreg 4 fun n0 k => (zStepD E (cy Y) [0, 0, 3, 7, 0, 16, 63, 0, 0, 384, 1023, 2047] n0 ⟨.slice 23 (.v 2) none (some (.v 1)) none, .push, none, false, 2, none⟩) ((zStepD E (cy Y) [0, 0, 3, 7, 0, 16, 63, 0, 0, 384, 1023, 2047] n0 ⟨.append 23 23 (.k (.sl 0 [] true)) (.l 0), .push, none, false, 3, (some 0)⟩) ((zDstWD [0, 0, 3, 7, 0, 16, 63, 0, 0, 384, 1023, 2047] 4 .push (wLoad 3 true (.v 3))) ((zStepD E (cy Y) [0, 0, 3, 7, 0, 16, 63, 0, 0, 384, 1023, 2047] n0 ⟨.buildSlice 23 1 [(0, (.l 0))], .push, none, false, 5, (some 1)⟩) ((zStepD E (cy Y) [0, 0, 3, 7, 0, 16, 63, 0, 0, 384, 1023, 2047] n0 ⟨.append 23 23 (.l 2) (.l 0), .push, none, false, 6, (some 2)⟩) ((zStepD E (cy Y) [0, 0, 3, 7, 0, 16, 63, 0, 0, 384, 1023, 2047] n0 ⟨.slice 23 (.v 2) (some (.v 1)) none none, .push, none, false, 9, none⟩) ((zStepD E (cy Y) [0, 0, 3, 7, 0, 16, 63, 0, 0, 384, 1023, 2047] n0 ⟨.append 23 23 (.l 1) (.l 0), .push, none, false, 10, (some 3)⟩) ((fun k sp => zDst (.var 5) (vMv (.l 0)) (k sp)) k))))))))
  zRet) zSkip))))
  (zReg fun k => (zDst .push (vMv (.v 1))) ((zDst .push (vInt E fAdd .add 3 false true (.l 0) (.k (.int .i64 1)))) ((zDst (.var 1) (vMv (.l 0))) k))))))))
  (zSeq (zDreg 3 fun n0 k => (zStepD E (cy Y) [0, 1, 0, 4, 15, 31] n0 ⟨.append 23 23 (.k (.sl 0 [] true)) (.v 2), .push, none, false, 1, (some 0)⟩) ((zDstWD [0, 1, 0, 4, 15, 31] 2 .push (wLoad 3 true (.v 3))) ((zStepD E (cy Y) [0, 1, 0, 4, 15, 31] n0 ⟨.buildSlice 23 1 [(0, (.l 0))], .push, none, false, 3, (some 1)⟩) ((zStepD E (cy Y) [0, 1, 0, 4, 15, 31] n0 ⟨.append 23 23 (.l 2) (.l 0), .push, none, false, 4, (some 2)⟩) ((fun k sp => zDst (.var 5) (vMv (.l 0)) (k sp)) k)))))
  zRet))), [.tmp (.v 5)]⟩
theorem G59_ok (fn : Nat → Option Func) (pu : Nat → Bool) (pr : Nat → List AV → Option (Heap → Option (Eff × Acc))) : ZOk ⟨Try.tyT, fn, pu, pr⟩ npT F59 (G59 ⟨Try.tyT, fn, pu, pr⟩) := ⟨rfl, rfl, rfl, fun cy Y k => by kernel_rfl⟩
noncomputable def F60 : FFn := ⟨11, [0, 1, 2, 4], (.seq (.reg [⟨.box 56 (.v 0), (.var 2), none, false, 0, (some 0)⟩,
    ⟨.box 56 (.v 1), .push, none, false, 1, (some 1)⟩,
    ⟨.alloc 56, (.var 3), none, false, 2, (some 2)⟩]) (.seq (.reg [⟨.fieldAddr 56 (.v 2) 0, .push, none, true, 0, none⟩,
    ⟨.load 3 (.l 0), .push, none, true, 1, none⟩,
    ⟨.fieldAddr 56 (.v 2) 1, .push, none, true, 2, none⟩,
    ⟨.load 42 (.l 0), .push, none, true, 3, none⟩,
    ⟨.bin .add 42 false true (.l 0) (.k (.int .u64 1)), .push, none, false, 4, none⟩,
    ⟨.build 56 [(0, (.l 3)), (1, (.l 0))], .push, none, false, 5, none⟩,
    ⟨.store 56 (.v 3) (.l 0), .none, none, false, 6, none⟩]) .ret)), [.cell (.v 3) 56]⟩
noncomputable def G60 (E : Env) : ZFn := ⟨11, [0, 1, 2, 4], fun cy Y fuel =>
  (zSeq (zReg fun k => (zStep E (cy Y) ⟨.box 56 (.v 0), (.var 2), none, false, 0, (some 0)⟩) ((zStep E (cy Y) ⟨.box 56 (.v 1), .push, none, false, 1, (some 1)⟩) ((zStep E (cy Y) ⟨.alloc 56, (.var 3), none, false, 2, (some 2)⟩) k)))
  (zSeq (zReg fun k => (zDst .push (vFieldAddr 0 (.v 2))) ((zDstW .push (wLoad 1 false (.l 0))) ((zDst .push (vFieldAddr 1 (.v 2))) ((zDstW .push (wLoad 1 false (.l 0))) ((zDst .push (vInt E fAdd .add 42 false true (.l 0) (.k (.int .u64 1)))) ((zStep E (cy Y) ⟨.build 56 [(0, (.l 3)), (1, (.l 0))], .push, none, false, 5, none⟩) ((zStep E (cy Y) ⟨.store 56 (.v 3) (.l 0), .none, none, false, 6, none⟩) k)))))))
  zRet)), [.cell (.v 3) 56]⟩
theorem G60_ok (fn : Nat → Option Func) (pu : Nat → Bool) (pr : Nat → List AV → Option (Heap → Option (Eff × Acc))) : ZOk ⟨Try.tyT, fn, pu, pr⟩ npT F60 (G60 ⟨Try.tyT, fn, pu, pr⟩) := ⟨rfl, rfl, rfl, fun cy Y k => by kernel_rfl⟩
noncomputable def F61 : FFn := ⟨8, [0, 2], (.seq (.reg [⟨.mv (.k (.sl 0 [] true)), (.var 1), none, true, 0, none⟩]) (.seq (.seq (.reg [⟨.bin .eql 23 false true (.v 0) (.k (.sl 0 [] true)), .push, none, false, 1, none⟩]) (.cond (.l 0) (.seq (.reg [⟨.mv (.k (.sl 0 [] true)), (.var 1), none, true, 0, none⟩]) .ret) .skip)) (.seq (.reg [⟨.buildSlice 23 0 [], .push, none, false, 0, (some 0)⟩,
    ⟨.append 23 23 (.l 0) (.v 0), .push, none, false, 2, (some 1)⟩,
    ⟨.mv (.l 0), (.var 1), none, true, 3, none⟩]) .ret))), [.tmp (.v 1)]⟩
noncomputable def G61 (E : Env) : ZFn := ⟨8, [0, 2], fun cy Y fuel =>
  (zSeq (zReg fun k => (zDst (.var 1) (vMv (.k (.sl 0 [] true)))) k)
  (zSeq (zSeq (zReg fun k => (zDst .push (vInt E fEql .eql 23 false true (.v 0) (.k (.sl 0 [] true)))) k)
  (zCond (.l 0) (zSeq (zReg fun k => (zDst (.var 1) (vMv (.k (.sl 0 [] true)))) k)
  zRet) zSkip))
  (zSeq (zReg fun k => (zStep E (cy Y) ⟨.buildSlice 23 0 [], .push, none, false, 0, (some 0)⟩) ((zStep E (cy Y) ⟨.append 23 23 (.l 0) (.v 0), .push, none, false, 2, (some 1)⟩) ((zDst (.var 1) (vMv (.l 0))) k)))
  zRet))), [.tmp (.v 1)]⟩
theorem G61_ok (fn : Nat → Option Func) (pu : Nat → Bool) (pr : Nat → List AV → Option (Heap → Option (Eff × Acc))) : ZOk ⟨Try.tyT, fn, pu, pr⟩ npT F61 (G61 ⟨Try.tyT, fn, pu, pr⟩) := ⟨rfl, rfl, rfl, fun cy Y k => by kernel_rfl⟩
noncomputable def F62 : FFn := ⟨24, [0, 2, 1, 7, 4, 6, 5], (.seq (.reg [⟨.box 25 (.v 0), (.var 1), none, false, 0, (some 0)⟩,
    ⟨.alloc 60, (.var 4), none, false, 1, (some 1)⟩,
    ⟨.mv (.k (.bool false)), (.var 6), none, true, 2, none⟩]) (.seq (.reg [⟨.fieldAddr 25 (.v 1) 1, .push, none, true, 0, none⟩,
    ⟨.load 23 (.l 0), .push, none, true, 1, none⟩,
    ⟨.build 60 [(0, (.v 2))], .push, none, false, 3, none⟩,
    ⟨.call 77 [(.l 1), (.l 0), (.k (.clo 52 []))], .push, none, false, 4, (some 0)⟩,
    ⟨.extract (.l 0) 0, .push, none, true, 6, none⟩,
    ⟨.extract (.l 1) 1, .push, none, true, 7, none⟩,
    ⟨.mv (.l 1), (.var 5), none, true, 8, none⟩,
    ⟨.mv (.l 0), (.var 3), none, true, 9, none⟩]) (.seq (.seq (.reg [⟨.un .not (.v 3), .push, none, false, 1, none⟩]) (.cond (.l 0) (.seq (.reg [⟨.build 60 [], .push, none, false, 0, none⟩,
    ⟨.store 60 (.v 4) (.l 0), .none, none, false, 1, none⟩,
    ⟨.mv (.k (.bool false)), (.var 6), none, true, 2, none⟩]) .ret) .skip)) (.seq (.reg [⟨.fieldAddr 25 (.v 1) 1, .push, none, true, 0, none⟩,
    ⟨.load 23 (.l 0), .push, none, true, 1, none⟩,
    ⟨.indexAddr 23 (.l 0) (.v 5), .push, none, true, 3, none⟩,
    ⟨.load 60 (.l 0), .push, none, true, 4, none⟩,
    ⟨.store 60 (.v 4) (.l 0), .none, none, false, 5, none⟩,
    ⟨.mv (.k (.bool true)), (.var 6), none, true, 6, none⟩]) .ret)))), [.cell (.v 4) 60, .tmp (.v 6)]⟩
noncomputable def G62 (E : Env) : ZFn := ⟨24, [0, 2, 1, 7, 4, 6, 5], fun cy Y fuel =>
  (zSeq (zReg fun k => (zStep E (cy Y) ⟨.box 25 (.v 0), (.var 1), none, false, 0, (some 0)⟩) ((zStep E (cy Y) ⟨.alloc 60, (.var 4), none, false, 1, (some 1)⟩) ((zDst (.var 6) (vMv (.k (.bool false)))) k)))
  (zSeq (zReg fun k => (zDst .push (vFieldAddr 1 (.v 1))) ((zDstW .push (wLoad 1 false (.l 0))) ((zStep E (cy Y) ⟨.build 60 [(0, (.v 2))], .push, none, false, 3, none⟩) ((zCall (cy Y) 77 [(.l 1), (.l 0), (.k (.clo 52 []))] .push) ((zDst .push (vExtract 0 (.l 0))) ((zDst .push (vExtract 1 (.l 1))) ((zDst (.var 5) (vMv (.l 1))) ((zDst (.var 3) (vMv (.l 0))) k))))))))
  (zSeq (zSeq (zReg fun k => (zDst .push (vNot (.v 3))) k)
  (zCond (.l 0) (zSeq (zReg fun k => (zStep E (cy Y) ⟨.build 60 [], .push, none, false, 0, none⟩) ((zStep E (cy Y) ⟨.store 60 (.v 4) (.l 0), .none, none, false, 1, none⟩) ((zDst (.var 6) (vMv (.k (.bool false)))) k)))
  zRet) zSkip))
  (zSeq (zReg fun k => (zDst .push (vFieldAddr 1 (.v 1))) ((zDstW .push (wLoad 1 false (.l 0))) ((zDst .push (vIndexAddr 3 (.l 0) (.v 5))) ((zDstW .push (wLoad 3 true (.l 0))) ((zStep E (cy Y) ⟨.store 60 (.v 4) (.l 0), .none, none, false, 5, none⟩) ((zDst (.var 6) (vMv (.k (.bool true)))) k))))))
  zRet)))), [.cell (.v 4) 60, .tmp (.v 6)]⟩
theorem G62_ok (fn : Nat → Option Func) (pu : Nat → Bool) (pr : Nat → List AV → Option (Heap → Option (Eff × Acc))) : ZOk ⟨Try.tyT, fn, pu, pr⟩ npT F62 (G62 ⟨Try.tyT, fn, pu, pr⟩) := ⟨rfl, rfl, rfl, fun cy Y k => by kernel_rfl⟩
noncomputable def F63 : FFn := ⟨8, [0, 2], (.seq (.reg [⟨.mv (.k (.sl 0 [] true)), (.var 1), none, true, 0, none⟩]) (.seq (.seq (.reg [⟨.bin .eql 22 false true (.v 0) (.k (.sl 0 [] true)), .push, none, false, 1, none⟩]) (.cond (.l 0) (.seq (.reg [⟨.mv (.k (.sl 0 [] true)), (.var 1), none, true, 0, none⟩]) .ret) .skip)) (.seq (.reg [⟨.buildSlice 22 0 [], .push, none, false, 0, (some 0)⟩,
    ⟨.append 22 22 (.l 0) (.v 0), .push, none, false, 2, (some 1)⟩,
    ⟨.mv (.l 0), (.var 1), none, true, 3, none⟩]) .ret))), [.tmp (.v 1)]⟩
noncomputable def G63 (E : Env) : ZFn := ⟨8, [0, 2], fun cy Y fuel =>
  (zSeq (zReg fun k => (zDst (.var 1) (vMv (.k (.sl 0 [] true)))) k)
  (zSeq (zSeq (zReg fun k => (zDst .push (vInt E fEql .eql 22 false true (.v 0) (.k (.sl 0 [] true)))) k)
  (zCond (.l 0) (zSeq (zReg fun k => (zDst (.var 1) (vMv (.k (.sl 0 [] true)))) k)
  zRet) zSkip))
  (zSeq (zReg fun k => (zStep E (cy Y) ⟨.buildSlice 22 0 [], .push, none, false, 0, (some 0)⟩) ((zStep E (cy Y) ⟨.append 22 22 (.l 0) (.v 0), .push, none, false, 2, (some 1)⟩) ((zDst (.var 1) (vMv (.l 0))) k)))
  zRet))), [.tmp (.v 1)]⟩
theorem G63_ok (fn : Nat → Option Func) (pu : Nat → Bool) (pr : Nat → List AV → Option (Heap → Option (Eff × Acc))) : ZOk ⟨Try.tyT, fn, pu, pr⟩ npT F63 (G63 ⟨Try.tyT, fn, pu, pr⟩) := ⟨rfl, rfl, rfl, fun cy Y k => by kernel_rfl⟩
noncomputable def F64 : FFn := ⟨6, [0, 1, 3, 4], (.seq (.reg [⟨.box 60 (.v 0), .push, none, false, 0, (some 0)⟩,
    ⟨.box 60 (.v 1), (.var 2), none, false, 1, (some 1)⟩,
    ⟨.alloc 60, (.var 3), none, false, 2, (some 2)⟩]) (.seq (.reg [⟨.load 60 (.v 2), .push, none, true, 0, none⟩,
    ⟨.store 60 (.v 3) (.l 0), .none, none, false, 1, none⟩]) .ret)), [.cell (.v 3) 60]⟩
noncomputable def G64 (E : Env) : ZFn := ⟨6, [0, 1, 3, 4], fun cy Y fuel =>
  (zSeq (zReg fun k => (zStep E (cy Y) ⟨.box 60 (.v 0), .push, none, false, 0, (some 0)⟩) ((zStep E (cy Y) ⟨.box 60 (.v 1), (.var 2), none, false, 1, (some 1)⟩) ((zStep E (cy Y) ⟨.alloc 60, (.var 3), none, false, 2, (some 2)⟩) k)))
  (zSeq (zReg fun k => (zDstW .push (wLoad 3 true (.v 2))) ((zStep E (cy Y) ⟨.store 60 (.v 3) (.l 0), .none, none, false, 1, none⟩) k))
  zRet)), [.cell (.v 3) 60]⟩
theorem G64_ok (fn : Nat → Option Func) (pu : Nat → Bool) (pr : Nat → List AV → Option (Heap → Option (Eff × Acc))) : ZOk ⟨Try.tyT, fn, pu, pr⟩ npT F64 (G64 ⟨Try.tyT, fn, pu, pr⟩) := ⟨rfl, rfl, rfl, fun cy Y k => by kernel_rfl⟩
noncomputable def F65 : FFn := ⟨12, [3, 0, 2], (.seq (.reg [⟨.mv (.k (.int .u64 0)), (.var 2), none, true, 0, none⟩]) (.seq (.seq (.reg [⟨.mv (.k (.int .i64 0)), (.var 0), none, true, 0, none⟩]) (.block 0 (.loop (.seq (.reg [⟨.bin .lss 3 false true (.v 0) (.k (.int .i64 2)), .push, none, false, 0, none⟩]) (.seq (.cond (.l 0) .skip (.exit 0)) (.seq (.block 1 (.reg [⟨.mv (.v 1), .push, none, true, 0, none⟩,
    ⟨.mv (.v 1), .push, none, true, 1, none⟩,
    ⟨.bin .shr 42 false true (.l 0) (.k (.int .u64 32)), .push, none, false, 2, none⟩,
    ⟨.bin .xor 42 false false (.l 2) (.l 0), .push, none, false, 3, none⟩,
    ⟨.bin .mul 42 false true (.l 0) (.k (.int .u64 11400714819323198485)), .push, none, false, 4, none⟩,
    ⟨.mv (.l 0), (.var 1), none, true, 5, none⟩])) (.reg [⟨.bin .add 3 false true (.v 0) (.k (.int .i64 1)), .push, none, false, 0, none⟩,
    ⟨.mv (.l 0), (.var 0), none, true, 1, none⟩]))))))) (.seq (.reg [⟨.mv (.v 1), (.var 2), none, true, 1, none⟩]) .ret))), [.tmp (.v 2)]⟩
noncomputable def G65 (E : Env) : ZFn := ⟨12, [3, 0, 2], fun cy Y fuel =>
  (zSeq (zReg fun k => (zDst (.var 2) (vMv (.k (.int .u64 0)))) k)
  (zSeq (zSeq (zReg fun k => (zDst (.var 0) (vMv (.k (.int .i64 0)))) k)
  (zBlock 0 (zLoop fuel (zSeq (zReg fun k => (zDst .push (vInt E fLss .lss 3 false true (.v 0) (.k (.int .i64 2)))) k)
  (zSeq (zCond (.l 0) zSkip (zExit 0))
  (zSeq (zBlock 1 (zReg fun k => (zDst .push (vMv (.v 1))) ((zDst .push (vMv (.v 1))) ((zDst .push (vBin E .shr 42 false true (.l 0) (.k (.int .u64 32)))) ((zDst .push (vInt E (fGen .xor) .xor 42 false false (.l 2) (.l 0))) ((zDst .push (vInt E (fGen .mul) .mul 42 false true (.l 0) (.k (.int .u64 11400714819323198485)))) ((zDst (.var 1) (vMv (.l 0))) k)))))))
  (zReg fun k => (zDst .push (vInt E fAdd .add 3 false true (.v 0) (.k (.int .i64 1)))) ((zDst (.var 0) (vMv (.l 0))) k))))))))
  (zSeq (zReg fun k => (zDst (.var 2) (vMv (.v 1))) k)
  zRet))), [.tmp (.v 2)]⟩
theorem G65_ok (fn : Nat → Option Func) (pu : Nat → Bool) (pr : Nat → List AV → Option (Heap → Option (Eff × Acc))) : ZOk ⟨Try.tyT, fn, pu, pr⟩ npT F65 (G65 ⟨Try.tyT, fn, pu, pr⟩) := ⟨rfl, rfl, rfl, fun cy Y k => by kernel_rfl⟩
noncomputable def F66 : FFn := ⟨19, [0, 7, 6, 3, 4, 2], (.seq (.reg [⟨.mv (.k (.int .u64 0)), (.var 5), none, true, 0, none⟩]) (.seq (.reg [⟨.mv (.k (.int .u64 14695981039346656037)), (.var 3), none, true, 0, none⟩]) (.seq (.seq (.reg [⟨.len 9 (.v 0), (.var 2), none, false, 1, none⟩,
    ⟨.mv (.k (.int .i64 0)), (.var 1), none, true, 2, none⟩]) (.block 0 (.loop (.seq (.reg [⟨.bin .lss 3 false false (.v 1) (.v 2), .push, none, false, 0, none⟩]) (.seq (.cond (.l 0) .skip (.exit 0)) (.seq (.block 1 (.seq (.reg [⟨.mv (.v 1), (.var 4), none, true, 1, none⟩]) (.reg [⟨.mv (.v 3), .push, none, true, 0, none⟩,
    ⟨.index 9 (.v 0) (.v 4), .push, none, false, 3, none⟩,
    ⟨.conv 5 42 (.l 0), .push, none, false, 4, none⟩,
    ⟨.bin .xor 42 false false (.l 2) (.l 0), .push, none, false, 5, none⟩,
    ⟨.bin .mul 42 false true (.l 0) (.k (.int .u64 1099511628211)), .push, none, false, 6, none⟩,
    ⟨.mv (.l 0), (.var 3), none, true, 7, none⟩]))) (.reg [⟨.bin .add 3 false true (.v 1) (.k (.int .i64 1)), .push, none, false, 0, none⟩,
    ⟨.mv (.l 0), (.var 1), none, true, 1, none⟩]))))))) (.seq (.reg [⟨.mv (.v 3), (.var 5), none, true, 1, none⟩]) .ret)))), [.tmp (.v 5)]⟩
noncomputable def G66 (E : Env) : ZFn := ⟨19, [0, 7, 6, 3, 4, 2], fun cy Y fuel =>
  (zSeq (zReg fun k => (zDst (.var 5) (vMv (.k (.int .u64 0)))) k)
  (zSeq (zReg fun k => (zDst (.var 3) (vMv (.k (.int .u64 14695981039346656037)))) k)
  (zSeq (zSeq (zReg fun k => (zDst (.var 2) (vLenS (.v 0))) ((zDst (.var 1) (vMv (.k (.int .i64 0)))) k))
  (zBlock 0 (zLoop fuel (zSeq (zReg fun k => (zDst .push (vInt E fLss .lss 3 false false (.v 1) (.v 2))) k)
  (zSeq (zCond (.l 0) zSkip (zExit 0))
  (zSeq (zBlock 1 (zSeq (zReg fun k => (zDst (.var 4) (vMv (.v 1))) k)
  (zReg fun k => (zDst .push (vMv (.v 3))) ((zStep E (cy Y) ⟨.index 9 (.v 0) (.v 4), .push, none, false, 3, none⟩) ((zDst .push (vConv .u64 (.l 0))) ((zDst .push (vInt E (fGen .xor) .xor 42 false false (.l 2) (.l 0))) ((zDst .push (vInt E (fGen .mul) .mul 42 false true (.l 0) (.k (.int .u64 1099511628211)))) ((zDst (.var 3) (vMv (.l 0))) k))))))))
  (zReg fun k => (zDst .push (vInt E fAdd .add 3 false true (.v 1) (.k (.int .i64 1)))) ((zDst (.var 1) (vMv (.l 0))) k))))))))
  (zSeq (zReg fun k => (zDst (.var 5) (vMv (.v 3))) k)
  zRet)))), [.tmp (.v 5)]⟩
theorem G66_ok (fn : Nat → Option Func) (pu : Nat → Bool) (pr : Nat → List AV → Option (Heap → Option (Eff × Acc))) : ZOk ⟨Try.tyT, fn, pu, pr⟩ npT F66 (G66 ⟨Try.tyT, fn, pu, pr⟩) := ⟨rfl, rfl, rfl, fun cy Y k => by kernel_rfl⟩
noncomputable def F67 : FFn := ⟨7, [0, 2], (.seq (.reg [⟨.mv (.k (.str [])), (.var 1), none, true, 0, none⟩]) (.seq (.reg [⟨.most true [(.v 0), (.k (.int .i64 0))], .push, none, false, 1, none⟩,
    ⟨.conv 3 42 (.l 0), .push, none, false, 2, none⟩,
    ⟨.call 83 [(.l 0)], .push, none, false, 3, (some 0)⟩,
    ⟨.mv (.l 0), (.var 1), none, true, 4, none⟩]) .ret)), [.tmp (.v 1)]⟩
noncomputable def G67 (E : Env) : ZFn := ⟨7, [0, 2], fun cy Y fuel =>
  (zSeq (zReg fun k => (zDst (.var 1) (vMv (.k (.str [])))) k)
  (zSeq (zReg fun k => (zStep E (cy Y) ⟨.most true [(.v 0), (.k (.int .i64 0))], .push, none, false, 1, none⟩) ((zDst .push (vConv .u64 (.l 0))) ((zCall (cy Y) 83 [(.l 0)] .push) ((zDst (.var 1) (vMv (.l 0))) k))))
  zRet)), [.tmp (.v 1)]⟩
theorem G67_ok (fn : Nat → Option Func) (pu : Nat → Bool) (pr : Nat → List AV → Option (Heap → Option (Eff × Acc))) : ZOk ⟨Try.tyT, fn, pu, pr⟩ npT F67 (G67 ⟨Try.tyT, fn, pu, pr⟩) := ⟨rfl, rfl, rfl, fun cy Y k => by kernel_rfl⟩
noncomputable def F68 : FFn := ⟨8, [0, 2], (.seq (.reg [⟨.mv (.k (.int .u64 0)), (.var 1), none, true, 0, none⟩]) (.seq (.reg [⟨.bin .quo 42 false true (.v 0) (.k (.int .u64 4294967296)), .push, none, false, 2, none⟩,
    ⟨.bin .xor 42 false false (.v 0) (.l 0), .push, none, false, 3, none⟩,
    ⟨.bin .mul 42 false true (.l 0) (.k (.int .u64 11400714819323198485)), .push, none, false, 4, none⟩,
    ⟨.mv (.l 0), (.var 1), none, true, 5, none⟩]) .ret)), [.tmp (.v 1)]⟩
noncomputable def G68 (E : Env) : ZFn := ⟨8, [0, 2], fun cy Y fuel =>
  (zSeq (zReg fun k => (zDst (.var 1) (vMv (.k (.int .u64 0)))) k)
  (zSeq (zReg fun k => (zDst .push (vInt E (fGen .quo) .quo 42 false true (.v 0) (.k (.int .u64 4294967296)))) ((zDst .push (vInt E (fGen .xor) .xor 42 false false (.v 0) (.l 0))) ((zDst .push (vInt E (fGen .mul) .mul 42 false true (.l 0) (.k (.int .u64 11400714819323198485)))) ((zDst (.var 1) (vMv (.l 0))) k))))
  zRet)), [.tmp (.v 1)]⟩
theorem G68_ok (fn : Nat → Option Func) (pu : Nat → Bool) (pr : Nat → List AV → Option (Heap → Option (Eff × Acc))) : ZOk ⟨Try.tyT, fn, pu, pr⟩ npT F68 (G68 ⟨Try.tyT, fn, pu, pr⟩) := ⟨rfl, rfl, rfl, fun cy Y k => by kernel_rfl⟩
noncomputable def F69 : FFn := ⟨19, [4, 0, 3, 2], (.seq (.reg [⟨.mv (.k (.int .u64 0)), (.var 3), none, true, 0, none⟩]) (.seq (.reg [⟨.mv (.k (.int .u64 14695981039346656037)), (.var 2), none, true, 0, none⟩]) (.seq (.seq (.reg [⟨.mv (.k (.int .i64 0)), (.var 0), none, true, 0, none⟩]) (.block 0 (.loop (.seq (.seq (.reg [⟨.len 9 (.v 1), .push, none, false, 2, none⟩,
    ⟨.bin .lss 3 false false (.v 0) (.l 0), .push, none, false, 3, none⟩]) (.cond (.l 0) .skip (.exit 0))) (.seq (.block 1 (.reg [⟨.mv (.v 2), .push, none, true, 0, none⟩,
    ⟨.index 9 (.v 1) (.v 0), .push, none, false, 3, none⟩,
    ⟨.conv 5 42 (.l 0), .push, none, false, 4, none⟩,
    ⟨.bin .xor 42 false false (.l 2) (.l 0), .push, none, false, 5, none⟩,
    ⟨.bin .mul 42 false true (.l 0) (.k (.int .u64 1099511628211)), .push, none, false, 6, none⟩,
    ⟨.mv (.l 0), (.var 2), none, true, 7, none⟩])) (.reg [⟨.mv (.v 0), .push, none, true, 0, none⟩,
    ⟨.bin .add 3 false true (.l 0) (.k (.int .i64 1)), .push, none, false, 1, none⟩,
    ⟨.mv (.l 0), (.var 0), none, true, 2, none⟩])))))) (.seq (.reg [⟨.mv (.v 2), (.var 3), none, true, 1, none⟩]) .ret)))), [.tmp (.v 3)]⟩
noncomputable def G69 (E : Env) : ZFn := ⟨19, [4, 0, 3, 2], fun cy Y fuel =>
  (zSeq (zReg fun k => (zDst (.var 3) (vMv (.k (.int .u64 0)))) k)
  (zSeq (zReg fun k => (zDst (.var 2) (vMv (.k (.int .u64 14695981039346656037)))) k)
  (zSeq (zSeq (zReg fun k => (zDst (.var 0) (vMv (.k (.int .i64 0)))) k)
  (zBlock 0 (zLoop fuel (zSeq (zSeq (zReg fun k => (zDst .push (vLenS (.v 1))) ((zDst .push (vInt E fLss .lss 3 false false (.v 0) (.l 0))) k))
  (zCond (.l 0) zSkip (zExit 0)))
  (zSeq (zBlock 1 (zReg fun k => (zDst .push (vMv (.v 2))) ((zStep E (cy Y) ⟨.index 9 (.v 1) (.v 0), .push, none, false, 3, none⟩) ((zDst .push (vConv .u64 (.l 0))) ((zDst .push (vInt E (fGen .xor) .xor 42 false false (.l 2) (.l 0))) ((zDst .push (vInt E (fGen .mul) .mul 42 false true (.l 0) (.k (.int .u64 1099511628211)))) ((zDst (.var 2) (vMv (.l 0))) k)))))))
  (zReg fun k => (zDst .push (vMv (.v 0))) ((zDst .push (vInt E fAdd .add 3 false true (.l 0) (.k (.int .i64 1)))) ((zDst (.var 0) (vMv (.l 0))) k))))))))
  (zSeq (zReg fun k => (zDst (.var 3) (vMv (.v 2))) k)
  zRet)))), [.tmp (.v 3)]⟩
theorem G69_ok (fn : Nat → Option Func) (pu : Nat → Bool) (pr : Nat → List AV → Option (Heap → Option (Eff × Acc))) : ZOk ⟨Try.tyT, fn, pu, pr⟩ npT F69 (G69 ⟨Try.tyT, fn, pu, pr⟩) := ⟨rfl, rfl, rfl, fun cy Y k => by kernel_rfl⟩
noncomputable def F70 : FFn := ⟨22, [0, 3, 2], (.seq (.reg [⟨.mv (.k (.str [])), (.var 2), none, true, 0, none⟩]) (.seq (.reg [⟨.mv (.k (.str [])), (.var 1), none, true, 0, none⟩]) (.seq (.block 0 (.loop (.seq (.seq (.reg [⟨.bin .geq 42 false true (.v 0) (.k (.int .u64 128)), .push, none, false, 1, none⟩]) (.cond (.l 0) .skip (.exit 0))) (.block 1 (.seq (.reg [⟨.mv (.v 1), .push, none, true, 0, none⟩,
    ⟨.bin .rem 42 false true (.v 0) (.k (.int .u64 128)), .push, none, false, 2, none⟩,
    ⟨.bin .add 42 true false (.k (.int .u64 128)) (.l 0), .push, none, false, 3, none⟩,
    ⟨.conv 42 5 (.l 0), .push, none, false, 4, none⟩,
    ⟨.buildSlice 40 1 [(0, (.l 0))], .push, none, false, 5, (some 0)⟩,
    ⟨.conv 40 9 (.l 0), .push, none, false, 6, none⟩,
    ⟨.bin .add 9 false false (.l 5) (.l 0), .push, none, false, 7, none⟩,
    ⟨.mv (.l 0), (.var 1), none, true, 8, none⟩]) (.reg [⟨.mv (.v 0), .push, none, true, 0, none⟩,
    ⟨.bin .quo 42 false true (.l 0) (.k (.int .u64 128)), .push, none, false, 1, none⟩,
    ⟨.mv (.l 0), (.var 0), none, true, 2, none⟩])))))) (.seq (.reg [⟨.conv 42 5 (.v 0), .push, none, false, 2, none⟩,
    ⟨.buildSlice 40 1 [(0, (.l 0))], .push, none, false, 3, (some 0)⟩,
    ⟨.conv 40 9 (.l 0), .push, none, false, 4, none⟩,
    ⟨.bin .add 9 false false (.v 1) (.l 0), .push, none, false, 5, none⟩,
    ⟨.mv (.l 0), (.var 2), none, true, 6, none⟩]) .ret)))), [.tmp (.v 2)]⟩
noncomputable def G70 (E : Env) : ZFn := ⟨22, [0, 3, 2], fun cy Y fuel =>
  (zSeq (zReg fun k => (zDst (.var 2) (vMv (.k (.str [])))) k)
  (zSeq (zReg fun k => (zDst (.var 1) (vMv (.k (.str [])))) k)
  (zSeq (zBlock 0 (zLoop fuel (zSeq (zSeq (zReg fun k => (zDst .push (vInt E (fGen .geq) .geq 42 false true (.v 0) (.k (.int .u64 128)))) k)
  (zCond (.l 0) zSkip (zExit 0)))
  (zBlock 1 (zSeq (zReg fun k => (zDst .push (vMv (.v 1))) ((zDst .push (vInt E (fGen .rem) .rem 42 false true (.v 0) (.k (.int .u64 128)))) ((zDst .push (vInt E fAdd .add 42 true false (.k (.int .u64 128)) (.l 0))) ((zDst .push (vConv .u8 (.l 0))) ((zStep E (cy Y) ⟨.buildSlice 40 1 [(0, (.l 0))], .push, none, false, 5, (some 0)⟩) ((zStep E (cy Y) ⟨.conv 40 9 (.l 0), .push, none, false, 6, none⟩) ((zDst .push (vInt E fAdd .add 9 false false (.l 5) (.l 0))) ((zDst (.var 1) (vMv (.l 0))) k))))))))
  (zReg fun k => (zDst .push (vMv (.v 0))) ((zDst .push (vInt E (fGen .quo) .quo 42 false true (.l 0) (.k (.int .u64 128)))) ((zDst (.var 0) (vMv (.l 0))) k))))))))
  (zSeq (zReg fun k => (zDst .push (vConv .u8 (.v 0))) ((zStep E (cy Y) ⟨.buildSlice 40 1 [(0, (.l 0))], .push, none, false, 3, (some 0)⟩) ((zStep E (cy Y) ⟨.conv 40 9 (.l 0), .push, none, false, 4, none⟩) ((zDst .push (vInt E fAdd .add 9 false false (.v 1) (.l 0))) ((zDst (.var 2) (vMv (.l 0))) k)))))
  zRet)))), [.tmp (.v 2)]⟩
theorem G70_ok (fn : Nat → Option Func) (pu : Nat → Bool) (pr : Nat → List AV → Option (Heap → Option (Eff × Acc))) : ZOk ⟨Try.tyT, fn, pu, pr⟩ npT F70 (G70 ⟨Try.tyT, fn, pu, pr⟩) := ⟨rfl, rfl, rfl, fun cy Y k => by kernel_rfl⟩
noncomputable def F71 : FFn := ⟨4, [0, 1, 2], (.seq (.reg [⟨.box 81 (.v 0), (.var 1), none, false, 0, (some 0)⟩,
    ⟨.mv (.k .nilFunc), (.var 2), none, true, 1, none⟩]) (.seq (.reg [⟨.mkFunc 84 [(.v 1)], .push, none, false, 0, none⟩,
    ⟨.mv (.l 0), (.var 2), none, true, 1, none⟩]) .ret)), [.tmp (.v 2)]⟩
noncomputable def G71 (E : Env) : ZFn := ⟨4, [0, 1, 2], fun cy Y fuel =>
  (zSeq (zReg fun k => (zStep E (cy Y) ⟨.box 81 (.v 0), (.var 1), none, false, 0, (some 0)⟩) ((zDst (.var 2) (vMv (.k .nilFunc))) k))
  (zSeq (zReg fun k => (zStep E (cy Y) ⟨.mkFunc 84 [(.v 1)], .push, none, false, 0, none⟩) ((zDst (.var 2) (vMv (.l 0))) k))
  zRet)), [.tmp (.v 2)]⟩
theorem G71_ok (fn : Nat → Option Func) (pu : Nat → Bool) (pr : Nat → List AV → Option (Heap → Option (Eff × Acc))) : ZOk ⟨Try.tyT, fn, pu, pr⟩ npT F71 (G71 ⟨Try.tyT, fn, pu, pr⟩) := ⟨rfl, rfl, rfl, fun cy Y k => by kernel_rfl⟩
noncomputable def F72 : FFn := ⟨32, [1, 0, 11, 10, 9, 15, 5, 7, 8, 3, 4], (.seq (.reg [⟨.box 42 (.v 0), (.var 9), none, false, 0, (some 0)⟩,
    ⟨.mv (.k .nilFunc), (.var 10), none, true, 1, none⟩]) (.seq (.reg [⟨.alloc 102, (.var 6), none, false, 0, (some 0)⟩]) (.seq (.seq (.reg [⟨.mv (.v 1), (.var 4), none, true, 0, none⟩,
    ⟨.len 32 (.v 4), (.var 3), none, false, 1, none⟩,
    ⟨.mv (.k (.int .i64 0)), (.var 2), none, true, 2, none⟩]) (.block 0 (.loop (.seq (.reg [⟨.bin .lss 3 false false (.v 2) (.v 3), .push, none, false, 0, none⟩]) (.seq (.cond (.l 0) .skip (.exit 0)) (.seq (.block 1 (.seq (.reg [⟨.indexAddr 32 (.v 4) (.v 2), .push, none, true, 0, none⟩,
    ⟨.load 3 (.l 0), .push, none, true, 1, none⟩,
    ⟨.mv (.l 0), (.var 7), none, true, 2, none⟩]) (.seq (.reg [⟨.mv (.k (.int .i64 0)), (.var 5), none, true, 0, none⟩]) (.block 2 (.loop (.seq (.reg [⟨.bin .lss 3 false true (.v 5) (.k (.int .i64 4)), .push, none, false, 0, none⟩]) (.seq (.cond (.l 0) .skip (.exit 2)) (.seq (.block 3 (.seq (.reg [⟨.mv (.v 5), (.var 8), none, true, 1, none⟩]) (.dreg 3 [0, 0, 0, 6, 0, 30, 62, 127, 255] [⟨.load 102 (.v 6), .push, none, true, 0, none⟩,
    ⟨.call 32 [(.v 7), (.v 8)], .push, none, false, 3, (some 0)⟩,
    ⟨.build 104 [(0, (.l 0)), (1, (.v 7))], .push, none, false, 5, none⟩,
    ⟨.buildSlice 102 1 [(0, (.l 0))], .push, none, false, 6, (some 1)⟩,
    ⟨.append 102 102 (.l 3) (.l 0), .push, none, false, 7, (some 2)⟩,
    ⟨.store 102 (.v 6) (.l 0), .none, none, false, 8, none⟩]))) (.reg [⟨.bin .add 3 false true (.v 5) (.k (.int .i64 1)), .push, none, false, 0, none⟩,
    ⟨.mv (.l 0), (.var 5), none, true, 1, none⟩]))))))))) (.reg [⟨.bin .add 3 false true (.v 2) (.k (.int .i64 1)), .push, none, false, 0, none⟩,
    ⟨.mv (.l 0), (.var 2), none, true, 1, none⟩]))))))) (.seq (.reg [⟨.load 102 (.v 6), .push, none, true, 0, none⟩,
    ⟨.mkFunc 86 [(.v 9)], .push, none, false, 1, none⟩,
    ⟨.call 85 [(.l 1), (.l 0)], .push, none, false, 2, (some 0)⟩]) (.seq (.reg [⟨.mkFunc 87 [(.v 6)], .push, none, false, 0, none⟩,
    ⟨.mv (.l 0), (.var 10), none, true, 1, none⟩]) .ret))))), [.tmp (.v 10)]⟩
noncomputable def G72 (E : Env) : ZFn := ⟨32, [1, 0, 11, 10, 9, 15, 5, 7, 8, 3, 4], fun cy Y fuel =>
  (zSeq (zReg fun k => (zStep E (cy Y) ⟨.box 42 (.v 0), (.var 9), none, false, 0, (some 0)⟩) ((zDst (.var 10) (vMv (.k .nilFunc))) k))
  (zSeq (zReg fun k => (zStep E (cy Y) ⟨.alloc 102, (.var 6), none, false, 0, (some 0)⟩) k)
  (zSeq (zSeq (zReg fun k => (zDst (.var 4) (vMv (.v 1))) ((zDst (.var 3) (vLenL (.v 4))) ((zDst (.var 2) (vMv (.k (.int .i64 0)))) k)))
  (zBlock 0 (zLoop fuel (zSeq (zReg fun k => (zDst .push (vInt E fLss .lss 3 false false (.v 2) (.v 3))) k)
  (zSeq (zCond (.l 0) zSkip (zExit 0))
  (zSeq (zBlock 1 (zSeq (zReg fun k => (zDst .push (vIndexAddr 1 (.v 4) (.v 2))) ((zDstW .push (wLoad 1 false (.l 0))) ((zDst (.var 7) (vMv (.l 0))) k)))
  (zSeq (zReg fun k => (zDst (.var 5) (vMv (.k (.int .i64 0)))) k)
  (zBlock 2 (zLoop fuel (zSeq (zReg fun k => (zDst .push (vInt E fLss .lss 3 false true (.v 5) (.k (.int .i64 4)))) k)
  (zSeq (zCond (.l 0) zSkip (zExit 2))
  (zSeq (zBlock 3 (zSeq (zReg fun k => (zDst (.var 8) (vMv (.v 5))) k)
  (zDreg 3 fun n0 k => (zDstWD [0, 0, 0, 6, 0, 30, 62, 127, 255] 0 .push (wLoad 1 false (.v 6))) ((zCallD (cy Y) [0, 0, 0, 6, 0, 30, 62, 127, 255] 3 32 [(.v 7), (.v 8)] .push) ((zStepD E (cy Y) [0, 0, 0, 6, 0, 30, 62, 127, 255] n0 ⟨.build 104 [(0, (.l 0)), (1, (.v 7))], .push, none, false, 5, none⟩) ((zStepD E (cy Y) [0, 0, 0, 6, 0, 30, 62, 127, 255] n0 ⟨.buildSlice 102 1 [(0, (.l 0))], .push, none, false, 6, (some 1)⟩) ((zStepD E (cy Y) [0, 0, 0, 6, 0, 30, 62, 127, 255] n0 ⟨.append 102 102 (.l 3) (.l 0), .push, none, false, 7, (some 2)⟩) ((zStepD E (cy Y) [0, 0, 0, 6, 0, 30, 62, 127, 255] n0 ⟨.store 102 (.v 6) (.l 0), .none, none, false, 8, none⟩) k))))))))
  (zReg fun k => (zDst .push (vInt E fAdd .add 3 false true (.v 5) (.k (.int .i64 1)))) ((zDst (.var 5) (vMv (.l 0))) k))))))))))
  (zReg fun k => (zDst .push (vInt E fAdd .add 3 false true (.v 2) (.k (.int .i64 1)))) ((zDst (.var 2) (vMv (.l 0))) k))))))))
  (zSeq (zReg fun k => (zDstW .push (wLoad 1 false (.v 6))) ((zStep E (cy Y) ⟨.mkFunc 86 [(.v 9)], .push, none, false, 1, none⟩) ((zCall (cy Y) 85 [(.l 1), (.l 0)] .push) k)))
  (zSeq (zReg fun k => (zStep E (cy Y) ⟨.mkFunc 87 [(.v 6)], .push, none, false, 0, none⟩) ((zDst (.var 10) (vMv (.l 0))) k))
  zRet))))), [.tmp (.v 10)]⟩
theorem G72_ok (fn : Nat → Option Func) (pu : Nat → Bool) (pr : Nat → List AV → Option (Heap → Option (Eff × Acc))) : ZOk ⟨Try.tyT, fn, pu, pr⟩ npT F72 (G72 ⟨Try.tyT, fn, pu, pr⟩) := ⟨rfl, rfl, rfl, fun cy Y k => by kernel_rfl⟩
noncomputable def F73 : FFn := ⟨9, [0, 1, 4], (.seq (.reg [⟨.mv (.k (.bool false)), (.var 2), none, true, 0, none⟩]) (.seq (.reg [⟨.call 88 [(.v 0), (.v 1)], .push, none, false, 2, (some 0)⟩,
    ⟨.bin .geq 3 false true (.l 0) (.k (.int .i64 0)), .push, none, false, 3, none⟩,
    ⟨.mv (.l 0), (.var 2), none, true, 4, none⟩]) .ret)), [.tmp (.v 2)]⟩
noncomputable def G73 (E : Env) : ZFn := ⟨9, [0, 1, 4], fun cy Y fuel =>
  (zSeq (zReg fun k => (zDst (.var 2) (vMv (.k (.bool false)))) k)
  (zSeq (zReg fun k => (zCall (cy Y) 88 [(.v 0), (.v 1)] .push) ((zDst .push (vInt E (fGen .geq) .geq 3 false true (.l 0) (.k (.int .i64 0)))) ((zDst (.var 2) (vMv (.l 0))) k)))
  zRet)), [.tmp (.v 2)]⟩
theorem G73_ok (fn : Nat → Option Func) (pu : Nat → Bool) (pr : Nat → List AV → Option (Heap → Option (Eff × Acc))) : ZOk ⟨Try.tyT, fn, pu, pr⟩ npT F73 (G73 ⟨Try.tyT, fn, pu, pr⟩) := ⟨rfl, rfl, rfl, fun cy Y k => by kernel_rfl⟩
noncomputable def F74 : FFn := ⟨24, [0, 10, 9, 8, 1, 7, 5, 4], (.seq (.reg [⟨.mv (.k (.sl 0 [] true)), (.var 7), none, true, 0, none⟩]) (.seq (.reg [⟨.mv (.k (.sl 0 [] true)), (.var 6), none, true, 0, none⟩]) (.seq (.seq (.reg [⟨.mv (.v 0), (.var 3), none, true, 0, none⟩,
    ⟨.len 32 (.v 3), (.var 2), none, false, 1, none⟩,
    ⟨.mv (.k (.int .i64 0)), (.var 1), none, true, 2, none⟩]) (.block 0 (.loop (.seq (.reg [⟨.bin .lss 3 false false (.v 1) (.v 2), .push, none, false, 0, none⟩]) (.seq (.cond (.l 0) .skip (.exit 0)) (.seq (.block 1 (.seq (.reg [⟨.indexAddr 32 (.v 3) (.v 1), .push, none, true, 0, none⟩,
    ⟨.load 3 (.l 0), .push, none, true, 1, none⟩,
    ⟨.mv (.l 0), (.var 5), none, true, 2, none⟩]) (.seq (.reg [⟨.call 73 [(.v 4), (.v 5)], .push, none, false, 2, (some 0)⟩,
    ⟨.un .not (.l 0), .push, none, false, 3, none⟩]) (.cond (.l 0) (.reg [⟨.mv (.v 6), .push, none, true, 0, none⟩,
    ⟨.buildSlice 32 1 [(0, (.v 5))], .push, none, false, 2, (some 0)⟩,
    ⟨.append 32 32 (.l 1) (.l 0), .push, none, false, 3, (some 1)⟩,
    ⟨.mv (.l 0), (.var 6), none, true, 4, none⟩]) .skip)))) (.reg [⟨.bin .add 3 false true (.v 1) (.k (.int .i64 1)), .push, none, false, 0, none⟩,
    ⟨.mv (.l 0), (.var 1), none, true, 1, none⟩]))))))) (.seq (.reg [⟨.mv (.v 6), (.var 7), none, true, 1, none⟩]) .ret)))), [.tmp (.v 7)]⟩
noncomputable def G74 (E : Env) : ZFn := ⟨24, [0, 10, 9, 8, 1, 7, 5, 4], fun cy Y fuel =>
  (zSeq (zReg fun k => (zDst (.var 7) (vMv (.k (.sl 0 [] true)))) k)
  (zSeq (zReg fun k => (zDst (.var 6) (vMv (.k (.sl 0 [] true)))) k)
  (zSeq (zSeq (zReg fun k => (zDst (.var 3) (vMv (.v 0))) ((zDst (.var 2) (vLenL (.v 3))) ((zDst (.var 1) (vMv (.k (.int .i64 0)))) k)))
  (zBlock 0 (zLoop fuel (zSeq (zReg fun k => (zDst .push (vInt E fLss .lss 3 false false (.v 1) (.v 2))) k)
  (zSeq (zCond (.l 0) zSkip (zExit 0))
  (zSeq (zBlock 1 (zSeq (zReg fun k => (zDst .push (vIndexAddr 1 (.v 3) (.v 1))) ((zDstW .push (wLoad 1 false (.l 0))) ((zDst (.var 5) (vMv (.l 0))) k)))
  (zSeq (zReg fun k => (zCall (cy Y) 73 [(.v 4), (.v 5)] .push) ((zDst .push (vNot (.l 0))) k))
  (zCond (.l 0) (zReg fun k => (zDst .push (vMv (.v 6))) ((zStep E (cy Y) ⟨.buildSlice 32 1 [(0, (.v 5))], .push, none, false, 2, (some 0)⟩) ((zStep E (cy Y) ⟨.append 32 32 (.l 1) (.l 0), .push, none, false, 3, (some 1)⟩) ((zDst (.var 6) (vMv (.l 0))) k)))) zSkip))))
  (zReg fun k => (zDst .push (vInt E fAdd .add 3 false true (.v 1) (.k (.int .i64 1)))) ((zDst (.var 1) (vMv (.l 0))) k))))))))
  (zSeq (zReg fun k => (zDst (.var 7) (vMv (.v 6))) k)
  zRet)))), [.tmp (.v 7)]⟩
theorem G74_ok (fn : Nat → Option Func) (pu : Nat → Bool) (pr : Nat → List AV → Option (Heap → Option (Eff × Acc))) : ZOk ⟨Try.tyT, fn, pu, pr⟩ npT F74 (G74 ⟨Try.tyT, fn, pu, pr⟩) := ⟨rfl, rfl, rfl, fun cy Y k => by kernel_rfl⟩
noncomputable def F75 : FFn := ⟨20, [0, 1, 5, 6, 4], (.seq (.reg [⟨.mv (.k (.int .i64 0)), (.var 4), none, true, 0, none⟩]) (.seq (.reg [⟨.call 89 [(.v 0)], .push, none, false, 1, (some 0)⟩,
    ⟨.mv (.l 0), (.var 2), none, true, 2, none⟩]) (.seq (.reg [⟨.call 89 [(.v 1)], .push, none, false, 1, (some 0)⟩,
    ⟨.mv (.l 0), (.var 3), none, true, 2, none⟩]) (.seq (.seq (.reg []) (.cond (.v 2) (.seq (.seq (.reg []) (.cond (.v 3) (.seq (.reg [⟨.mv (.k (.int .i64 0)), (.var 4), none, true, 0, none⟩]) .ret) .skip)) (.seq (.reg [⟨.mv (.k (.int .i64 (-1))), (.var 4), none, true, 0, none⟩]) .ret)) .skip)) (.seq (.seq (.reg []) (.cond (.v 3) (.seq (.reg [⟨.mv (.k (.int .i64 1)), (.var 4), none, true, 0, none⟩]) .ret) .skip)) (.seq (.seq (.reg [⟨.bin .lss 3 false false (.v 0) (.v 1), .push, none, false, 2, none⟩]) (.cond (.l 0) (.seq (.reg [⟨.mv (.k (.int .i64 (-1))), (.var 4), none, true, 0, none⟩]) .ret) .skip)) (.seq (.seq (.reg [⟨.bin .gtr 3 false false (.v 0) (.v 1), .push, none, false, 2, none⟩]) (.cond (.l 0) (.seq (.reg [⟨.mv (.k (.int .i64 1)), (.var 4), none, true, 0, none⟩]) .ret) .skip)) (.seq (.reg [⟨.mv (.k (.int .i64 0)), (.var 4), none, true, 0, none⟩]) .ret)))))))), [.tmp (.v 4)]⟩
noncomputable def G75 (E : Env) : ZFn := ⟨20, [0, 1, 5, 6, 4], fun cy Y fuel =>
  (zSeq (zReg fun k => (zDst (.var 4) (vMv (.k (.int .i64 0)))) k)
  (zSeq (zReg fun k => (zCall (cy Y) 89 [(.v 0)] .push) ((zDst (.var 2) (vMv (.l 0))) k))
  (zSeq (zReg fun k => (zCall (cy Y) 89 [(.v 1)] .push) ((zDst (.var 3) (vMv (.l 0))) k))
  (zSeq (zSeq (zReg fun k => k)
  (zCond (.v 2) (zSeq (zSeq (zReg fun k => k)
  (zCond (.v 3) (zSeq (zReg fun k => (zDst (.var 4) (vMv (.k (.int .i64 0)))) k)
  zRet) zSkip))
  (zSeq (zReg fun k => (zDst (.var 4) (vMv (.k (.int .i64 (-1))))) k)
  zRet)) zSkip))
  (zSeq (zSeq (zReg fun k => k)
  (zCond (.v 3) (zSeq (zReg fun k => (zDst (.var 4) (vMv (.k (.int .i64 1)))) k)
  zRet) zSkip))
  (zSeq (zSeq (zReg fun k => (zDst .push (vInt E fLss .lss 3 false false (.v 0) (.v 1))) k)
  (zCond (.l 0) (zSeq (zReg fun k => (zDst (.var 4) (vMv (.k (.int .i64 (-1))))) k)
  zRet) zSkip))
  (zSeq (zSeq (zReg fun k => (zDst .push (vInt E fGtr .gtr 3 false false (.v 0) (.v 1))) k)
  (zCond (.l 0) (zSeq (zReg fun k => (zDst (.var 4) (vMv (.k (.int .i64 1)))) k)
  zRet) zSkip))
  (zSeq (zReg fun k => (zDst (.var 4) (vMv (.k (.int .i64 0)))) k)
  zRet)))))))), [.tmp (.v 4)]⟩
theorem G75_ok (fn : Nat → Option Func) (pu : Nat → Bool) (pr : Nat → List AV → Option (Heap → Option (Eff × Acc))) : ZOk ⟨Try.tyT, fn, pu, pr⟩ npT F75 (G75 ⟨Try.tyT, fn, pu, pr⟩) := ⟨rfl, rfl, rfl, fun cy Y k => by kernel_rfl⟩
noncomputable def F76 : FFn := ⟨4, [0, 1, 2], (.seq (.reg [⟨.box 91 (.v 0), (.var 1), none, false, 0, (some 0)⟩,
    ⟨.mv (.k .nilFunc), (.var 2), none, true, 1, none⟩]) (.seq (.reg [⟨.mkFunc 90 [(.v 1)], .push, none, false, 0, none⟩,
    ⟨.mv (.l 0), (.var 2), none, true, 1, none⟩]) .ret)), [.tmp (.v 2)]⟩
noncomputable def G76 (E : Env) : ZFn := ⟨4, [0, 1, 2], fun cy Y fuel =>
  (zSeq (zReg fun k => (zStep E (cy Y) ⟨.box 91 (.v 0), (.var 1), none, false, 0, (some 0)⟩) ((zDst (.var 2) (vMv (.k .nilFunc))) k))
  (zSeq (zReg fun k => (zStep E (cy Y) ⟨.mkFunc 90 [(.v 1)], .push, none, false, 0, none⟩) ((zDst (.var 2) (vMv (.l 0))) k))
  zRet)), [.tmp (.v 2)]⟩
theorem G76_ok (fn : Nat → Option Func) (pu : Nat → Bool) (pr : Nat → List AV → Option (Heap → Option (Eff × Acc))) : ZOk ⟨Try.tyT, fn, pu, pr⟩ npT F76 (G76 ⟨Try.tyT, fn, pu, pr⟩) := ⟨rfl, rfl, rfl, fun cy Y k => by kernel_rfl⟩
noncomputable def F77 : FFn := ⟨49, [1, 0, 8, 9, 10, 2, 11, 4, 6, 7], (.seq (.reg [⟨.box 60 (.v 0), (.var 7), none, false, 0, (some 0)⟩,
    ⟨.mv (.k (.int .i64 0)), (.var 8), none, true, 1, none⟩,
    ⟨.mv (.k (.bool false)), (.var 9), none, true, 2, none⟩]) (.seq (.reg [⟨.len 23 (.v 1), .push, none, false, 1, none⟩,
    ⟨.mv (.l 0), (.var 2), none, true, 2, none⟩]) (.seq (.reg [⟨.mv (.k (.int .i64 0)), (.var 3), none, true, 1, none⟩,
    ⟨.mv (.v 2), (.var 4), none, true, 2, none⟩]) (.seq (.block 0 (.loop (.seq (.seq (.reg [⟨.bin .lss 3 false false (.v 3) (.v 4), .push, none, false, 2, none⟩]) (.cond (.l 0) .skip (.exit 0))) (.block 1 (.seq (.reg [⟨.bin .add 3 false false (.v 3) (.v 4), .push, none, false, 2, none⟩,
    ⟨.conv 3 48 (.l 0), .push, none, false, 3, none⟩,
    ⟨.bin .shr 48 false true (.l 0) (.k (.int .u64 1)), .push, none, false, 4, none⟩,
    ⟨.conv 48 3 (.l 0), .push, none, false, 5, none⟩,
    ⟨.mv (.l 0), (.var 6), none, true, 6, none⟩]) (.seq (.dreg 1 [0, 0, 0, 6, 14, 0, 63, 127] [⟨.indexAddr 23 (.v 1) (.v 6), .push, none, true, 3, none⟩,
    ⟨.load 60 (.l 0), .push, none, true, 4, none⟩,
    ⟨.load 60 (.v 7), .push, none, true, 5, none⟩,
    ⟨.callv (.v 5) [(.l 1), (.l 0)], .push, none, false, 6, (some 0)⟩,
    ⟨.bin .lss 3 false true (.l 0) (.k (.int .i64 0)), .push, none, false, 7, none⟩]) (.cond (.l 0) (.reg [⟨.bin .add 3 false true (.v 6) (.k (.int .i64 1)), .push, none, false, 1, none⟩,
    ⟨.mv (.l 0), (.var 3), none, true, 2, none⟩]) (.reg [⟨.mv (.v 6), (.var 4), none, true, 1, none⟩])))))))) (.seq (.dreg 1 [0, 0, 0, 6, 14, 30, 30, 30, 222, 478, 30, 2046, 4094, 8190, 4095, 32767] [⟨.bin .lss 3 false false (.v 3) (.v 2), .push, none, false, 3, none⟩,
    ⟨.mv (.v 5), .push, (some ((.l 0), true)), true, 5, none⟩,
    ⟨.mv (.v 1), .push, (some ((.l 1), true)), true, 6, none⟩,
    ⟨.mv (.v 3), .push, (some ((.l 2), true)), true, 7, none⟩,
    ⟨.indexAddr 23 (.l 1) (.l 0), .push, (some ((.l 3), true)), true, 8, none⟩,
    ⟨.load 60 (.l 0), .push, (some ((.l 4), true)), true, 9, none⟩,
    ⟨.load 60 (.v 7), .push, (some ((.l 5), true)), true, 10, none⟩,
    ⟨.callv (.l 5) [(.l 1), (.l 0)], .push, (some ((.l 6), true)), false, 11, (some 0)⟩,
    ⟨.bin .eql 3 false true (.l 0) (.k (.int .i64 0)), .push, (some ((.l 7), true)), false, 12, none⟩,
    ⟨.pick (.l 8) (.l 0) (.k (.bool false)), .push, none, true, 13, none⟩,
    ⟨.mv (.v 3), (.var 8), none, true, 14, none⟩,
    ⟨.mv (.l 0), (.var 9), none, true, 15, none⟩]) .ret))))), [.tmp (.v 8), .tmp (.v 9)]⟩
noncomputable def G77 (E : Env) : ZFn := ⟨49, [1, 0, 8, 9, 10, 2, 11, 4, 6, 7], fun cy Y fuel =>
  (zSeq (zReg fun k => (zStep E (cy Y) ⟨.box 60 (.v 0), (.var 7), none, false, 0, (some 0)⟩) ((zDst (.var 8) (vMv (.k (.int .i64 0)))) ((zDst (.var 9) (vMv (.k (.bool false)))) k)))
  (zSeq (zReg fun k => (zDst .push (vLenL (.v 1))) ((zDst (.var 2) (vMv (.l 0))) k))
  (zSeq (zReg fun k => (zDst (.var 3) (vMv (.k (.int .i64 0)))) ((zDst (.var 4) (vMv (.v 2))) k))
  (zSeq (zBlock 0 (zLoop fuel (zSeq (zSeq (zReg fun k => (zDst .push (vInt E fLss .lss 3 false false (.v 3) (.v 4))) k)
  (zCond (.l 0) zSkip (zExit 0)))
  (zBlock 1 (zSeq (zReg fun k => (zDst .push (vInt E fAdd .add 3 false false (.v 3) (.v 4))) ((zDst .push (vConv .u64 (.l 0))) ((zDst .push (vBin E .shr 48 false true (.l 0) (.k (.int .u64 1)))) ((zDst .push (vConv .i64 (.l 0))) ((zDst (.var 6) (vMv (.l 0))) k)))))
  (zSeq (zDreg 1 fun n0 k => (fun k sp => zDst .push (vIndexAddr 3 (.v 1) (.v 6)) (k sp)) ((zDstWD [0, 0, 0, 6, 14, 0, 63, 127] 4 .push (wLoad 3 true (.l 0))) ((zDstWD [0, 0, 0, 6, 14, 0, 63, 127] 5 .push (wLoad 3 true (.v 7))) ((zStepD E (cy Y) [0, 0, 0, 6, 14, 0, 63, 127] n0 ⟨.callv (.v 5) [(.l 1), (.l 0)], .push, none, false, 6, (some 0)⟩) ((fun k sp => zDst .push (vInt E fLss .lss 3 false true (.l 0) (.k (.int .i64 0))) (k sp)) k)))))
  (zCond (.l 0) (zReg fun k => (zDst .push (vInt E fAdd .add 3 false true (.v 6) (.k (.int .i64 1)))) ((zDst (.var 3) (vMv (.l 0))) k)) (zReg fun k => (zDst (.var 4) (vMv (.v 6))) k))))))))
  (zSeq (zDreg 1 fun n0 k => (fun k sp => zDst .push (vInt E fLss .lss 3 false false (.v 3) (.v 2)) (k sp)) ((zGD (.l 0) true .push (fun k sp => zDst .push (vMv (.v 5)) (k sp))) ((zGD (.l 1) true .push (fun k sp => zDst .push (vMv (.v 1)) (k sp))) ((zGD (.l 2) true .push (fun k sp => zDst .push (vMv (.v 3)) (k sp))) ((zGD (.l 3) true .push (fun k sp => zDst .push (vIndexAddr 3 (.l 1) (.l 0)) (k sp))) ((zGD (.l 4) true .push (zDstWD [0, 0, 0, 6, 14, 30, 30, 30, 222, 478, 30, 2046, 4094, 8190, 4095, 32767] 9 .push (wLoad 3 true (.l 0)))) ((zGD (.l 5) true .push (zDstWD [0, 0, 0, 6, 14, 30, 30, 30, 222, 478, 30, 2046, 4094, 8190, 4095, 32767] 10 .push (wLoad 3 true (.v 7)))) ((zGD (.l 6) true .push (zStepD E (cy Y) [0, 0, 0, 6, 14, 30, 30, 30, 222, 478, 30, 2046, 4094, 8190, 4095, 32767] n0 ⟨.callv (.l 5) [(.l 1), (.l 0)], .push, none, false, 11, (some 0)⟩)) ((zGD (.l 7) true .push (fun k sp => zDst .push (vInt E fEql .eql 3 false true (.l 0) (.k (.int .i64 0))) (k sp))) ((fun k sp => zDst .push (vPick (.l 8) (.l 0) (.k (.bool false))) (k sp)) ((fun k sp => zDst (.var 8) (vMv (.v 3)) (k sp)) ((fun k sp => zDst (.var 9) (vMv (.l 0)) (k sp)) k))))))))))))
  zRet))))), [.tmp (.v 8), .tmp (.v 9)]⟩
theorem G77_ok (fn : Nat → Option Func) (pu : Nat → Bool) (pr : Nat → List AV → Option (Heap → Option (Eff × Acc))) : ZOk ⟨Try.tyT, fn, pu, pr⟩ npT F77 (G77 ⟨Try.tyT, fn, pu, pr⟩) := ⟨rfl, rfl, rfl, fun cy Y k => by kernel_rfl⟩
noncomputable def F79 : FFn := ⟨8, [0, 1, 4], (.seq (.reg [⟨.mv (.k (.int .i64 0)), (.var 2), none, true, 0, none⟩]) (.seq (.reg [⟨.call 93 [(.v 0), (.v 1)], .push, none, false, 2, (some 0)⟩,
    ⟨.mv (.l 0), (.var 2), none, true, 3, none⟩]) .ret)), [.tmp (.v 2)]⟩
noncomputable def G79 (E : Env) : ZFn := ⟨8, [0, 1, 4], fun cy Y fuel =>
  (zSeq (zReg fun k => (zDst (.var 2) (vMv (.k (.int .i64 0)))) k)
  (zSeq (zReg fun k => (zCall (cy Y) 93 [(.v 0), (.v 1)] .push) ((zDst (.var 2) (vMv (.l 0))) k))
  zRet)), [.tmp (.v 2)]⟩
theorem G79_ok (fn : Nat → Option Func) (pu : Nat → Bool) (pr : Nat → List AV → Option (Heap → Option (Eff × Acc))) : ZOk ⟨Try.tyT, fn, pu, pr⟩ npT F79 (G79 ⟨Try.tyT, fn, pu, pr⟩) := ⟨rfl, rfl, rfl, fun cy Y k => by kernel_rfl⟩
noncomputable def F80 : FFn := ⟨6, [0, 2], (.seq (.reg [⟨.mv (.k (.bool false)), (.var 1), none, true, 0, none⟩]) (.seq (.reg [⟨.bin .neq 42 false false (.v 0) (.v 0), .push, none, false, 2, none⟩,
    ⟨.mv (.l 0), (.var 1), none, true, 3, none⟩]) .ret)), [.tmp (.v 1)]⟩
noncomputable def G80 (E : Env) : ZFn := ⟨6, [0, 2], fun cy Y fuel =>
  (zSeq (zReg fun k => (zDst (.var 1) (vMv (.k (.bool false)))) k)
  (zSeq (zReg fun k => (zDst .push (vInt E fNeq .neq 42 false false (.v 0) (.v 0))) ((zDst (.var 1) (vMv (.l 0))) k))
  zRet)), [.tmp (.v 1)]⟩
theorem G80_ok (fn : Nat → Option Func) (pu : Nat → Bool) (pr : Nat → List AV → Option (Heap → Option (Eff × Acc))) : ZOk ⟨Try.tyT, fn, pu, pr⟩ npT F80 (G80 ⟨Try.tyT, fn, pu, pr⟩) := ⟨rfl, rfl, rfl, fun cy Y k => by kernel_rfl⟩
noncomputable def F81 : FFn := ⟨49, [1, 0, 8, 9, 10, 2, 11, 4, 6, 7], (.seq (.reg [⟨.box 56 (.v 0), (.var 7), none, false, 0, (some 0)⟩,
    ⟨.mv (.k (.int .i64 0)), (.var 8), none, true, 1, none⟩,
    ⟨.mv (.k (.bool false)), (.var 9), none, true, 2, none⟩]) (.seq (.reg [⟨.len 22 (.v 1), .push, none, false, 1, none⟩,
    ⟨.mv (.l 0), (.var 2), none, true, 2, none⟩]) (.seq (.reg [⟨.mv (.k (.int .i64 0)), (.var 3), none, true, 1, none⟩,
    ⟨.mv (.v 2), (.var 4), none, true, 2, none⟩]) (.seq (.block 0 (.loop (.seq (.seq (.reg [⟨.bin .lss 3 false false (.v 3) (.v 4), .push, none, false, 2, none⟩]) (.cond (.l 0) .skip (.exit 0))) (.block 1 (.seq (.reg [⟨.bin .add 3 false false (.v 3) (.v 4), .push, none, false, 2, none⟩,
    ⟨.conv 3 48 (.l 0), .push, none, false, 3, none⟩,
    ⟨.bin .shr 48 false true (.l 0) (.k (.int .u64 1)), .push, none, false, 4, none⟩,
    ⟨.conv 48 3 (.l 0), .push, none, false, 5, none⟩,
    ⟨.mv (.l 0), (.var 6), none, true, 6, none⟩]) (.seq (.dreg 1 [0, 0, 0, 6, 14, 0, 63, 127] [⟨.indexAddr 22 (.v 1) (.v 6), .push, none, true, 3, none⟩,
    ⟨.load 56 (.l 0), .push, none, true, 4, none⟩,
    ⟨.load 56 (.v 7), .push, none, true, 5, none⟩,
    ⟨.callv (.v 5) [(.l 1), (.l 0)], .push, none, false, 6, (some 0)⟩,
    ⟨.bin .lss 3 false true (.l 0) (.k (.int .i64 0)), .push, none, false, 7, none⟩]) (.cond (.l 0) (.reg [⟨.bin .add 3 false true (.v 6) (.k (.int .i64 1)), .push, none, false, 1, none⟩,
    ⟨.mv (.l 0), (.var 3), none, true, 2, none⟩]) (.reg [⟨.mv (.v 6), (.var 4), none, true, 1, none⟩])))))))) (.seq (.dreg 1 [0, 0, 0, 6, 14, 30, 30, 30, 222, 478, 30, 2046, 4094, 8190, 4095, 32767] [⟨.bin .lss 3 false false (.v 3) (.v 2), .push, none, false, 3, none⟩,
    ⟨.mv (.v 5), .push, (some ((.l 0), true)), true, 5, none⟩,
    ⟨.mv (.v 1), .push, (some ((.l 1), true)), true, 6, none⟩,
    ⟨.mv (.v 3), .push, (some ((.l 2), true)), true, 7, none⟩,
    ⟨.indexAddr 22 (.l 1) (.l 0), .push, (some ((.l 3), true)), true, 8, none⟩,
    ⟨.load 56 (.l 0), .push, (some ((.l 4), true)), true, 9, none⟩,
    ⟨.load 56 (.v 7), .push, (some ((.l 5), true)), true, 10, none⟩,
    ⟨.callv (.l 5) [(.l 1), (.l 0)], .push, (some ((.l 6), true)), false, 11, (some 0)⟩,
    ⟨.bin .eql 3 false true (.l 0) (.k (.int .i64 0)), .push, (some ((.l 7), true)), false, 12, none⟩,
    ⟨.pick (.l 8) (.l 0) (.k (.bool false)), .push, none, true, 13, none⟩,
    ⟨.mv (.v 3), (.var 8), none, true, 14, none⟩,
    ⟨.mv (.l 0), (.var 9), none, true, 15, none⟩]) .ret))))), [.tmp (.v 8), .tmp (.v 9)]⟩
noncomputable def G81 (E : Env) : ZFn := ⟨49, [1, 0, 8, 9, 10, 2, 11, 4, 6, 7], fun cy Y fuel =>
  (zSeq (zReg fun k => (zStep E (cy Y) ⟨.box 56 (.v 0), (.var 7), none, false, 0, (some 0)⟩) ((zDst (.var 8) (vMv (.k (.int .i64 0)))) ((zDst (.var 9) (vMv (.k (.bool false)))) k)))
  (zSeq (zReg fun k => (zDst .push (vLenL (.v 1))) ((zDst (.var 2) (vMv (.l 0))) k))
  (zSeq (zReg fun k => (zDst (.var 3) (vMv (.k (.int .i64 0)))) ((zDst (.var 4) (vMv (.v 2))) k))
  (zSeq (zBlock 0 (zLoop fuel (zSeq (zSeq (zReg fun k => (zDst .push (vInt E fLss .lss 3 false false (.v 3) (.v 4))) k)
  (zCond (.l 0) zSkip (zExit 0)))
  (zBlock 1 (zSeq (zReg fun k => (zDst .push (vInt E fAdd .add 3 false false (.v 3) (.v 4))) ((zDst .push (vConv .u64 (.l 0))) ((zDst .push (vBin E .shr 48 false true (.l 0) (.k (.int .u64 1)))) ((zDst .push (vConv .i64 (.l 0))) ((zDst (.var 6) (vMv (.l 0))) k)))))
  (zSeq (zDreg 1 fun n0 k => (fun k sp => zDst .push (vIndexAddr 2 (.v 1) (.v 6)) (k sp)) ((zDstWD [0, 0, 0, 6, 14, 0, 63, 127] 4 .push (wLoad 2 true (.l 0))) ((zDstWD [0, 0, 0, 6, 14, 0, 63, 127] 5 .push (wLoad 2 true (.v 7))) ((zStepD E (cy Y) [0, 0, 0, 6, 14, 0, 63, 127] n0 ⟨.callv (.v 5) [(.l 1), (.l 0)], .push, none, false, 6, (some 0)⟩) ((fun k sp => zDst .push (vInt E fLss .lss 3 false true (.l 0) (.k (.int .i64 0))) (k sp)) k)))))
  (zCond (.l 0) (zReg fun k => (zDst .push (vInt E fAdd .add 3 false true (.v 6) (.k (.int .i64 1)))) ((zDst (.var 3) (vMv (.l 0))) k)) (zReg fun k => (zDst (.var 4) (vMv (.v 6))) k))))))))
  (zSeq (zDreg 1 fun n0 k => (fun k sp => zDst .push (vInt E fLss .lss 3 false false (.v 3) (.v 2)) (k sp)) ((zGD (.l 0) true .push (fun k sp => zDst .push (vMv (.v 5)) (k sp))) ((zGD (.l 1) true .push (fun k sp => zDst .push (vMv (.v 1)) (k sp))) ((zGD (.l 2) true .push (fun k sp => zDst .push (vMv (.v 3)) (k sp))) ((zGD (.l 3) true .push (fun k sp => zDst .push (vIndexAddr 2 (.l 1) (.l 0)) (k sp))) ((zGD (.l 4) true .push (zDstWD [0, 0, 0, 6, 14, 30, 30, 30, 222, 478, 30, 2046, 4094, 8190, 4095, 32767] 9 .push (wLoad 2 true (.l 0)))) ((zGD (.l 5) true .push (zDstWD [0, 0, 0, 6, 14, 30, 30, 30, 222, 478, 30, 2046, 4094, 8190, 4095, 32767] 10 .push (wLoad 2 true (.v 7)))) ((zGD (.l 6) true .push (zStepD E (cy Y) [0, 0, 0, 6, 14, 30, 30, 30, 222, 478, 30, 2046, 4094, 8190, 4095, 32767] n0 ⟨.callv (.l 5) [(.l 1), (.l 0)], .push, none, false, 11, (some 0)⟩)) ((zGD (.l 7) true .push (fun k sp => zDst .push (vInt E fEql .eql 3 false true (.l 0) (.k (.int .i64 0))) (k sp))) ((fun k sp => zDst .push (vPick (.l 8) (.l 0) (.k (.bool false))) (k sp)) ((fun k sp => zDst (.var 8) (vMv (.v 3)) (k sp)) ((fun k sp => zDst (.var 9) (vMv (.l 0)) (k sp)) k))))))))))))
  zRet))))), [.tmp (.v 8), .tmp (.v 9)]⟩
theorem G81_ok (fn : Nat → Option Func) (pu : Nat → Bool) (pr : Nat → List AV → Option (Heap → Option (Eff × Acc))) : ZOk ⟨Try.tyT, fn, pu, pr⟩ npT F81 (G81 ⟨Try.tyT, fn, pu, pr⟩) := ⟨rfl, rfl, rfl, fun cy Y k => by kernel_rfl⟩
noncomputable def F83 : FFn := ⟨21, [0, 3, 2], (.seq (.reg [⟨.mv (.k (.str [])), (.var 2), none, true, 0, none⟩]) (.seq (.reg [⟨.mv (.k (.sl 0 [] true)), (.var 1), none, true, 0, none⟩]) (.seq (.block 0 (.loop (.seq (.seq (.reg [⟨.bin .geq 42 false true (.v 0) (.k (.int .u64 128)), .push, none, false, 1, none⟩]) (.cond (.l 0) .skip (.exit 0))) (.seq (.block 1 (.reg [⟨.mv (.v 1), .push, none, true, 0, none⟩,
    ⟨.bin .rem 42 false true (.v 0) (.k (.int .u64 128)), .push, none, false, 2, none⟩,
    ⟨.bin .add 42 false true (.l 0) (.k (.int .u64 128)), .push, none, false, 3, none⟩,
    ⟨.conv 42 5 (.l 0), .push, none, false, 4, none⟩,
    ⟨.buildSlice 40 1 [(0, (.l 0))], .push, none, false, 5, (some 0)⟩,
    ⟨.append 40 40 (.l 4) (.l 0), .push, none, false, 6, (some 1)⟩,
    ⟨.mv (.l 0), (.var 1), none, true, 7, none⟩])) (.reg [⟨.mv (.v 0), .push, none, true, 0, none⟩,
    ⟨.bin .quo 42 false true (.l 0) (.k (.int .u64 128)), .push, none, false, 1, none⟩,
    ⟨.mv (.l 0), (.var 0), none, true, 2, none⟩]))))) (.seq (.reg [⟨.conv 42 5 (.v 0), .push, none, false, 2, none⟩,
    ⟨.buildSlice 40 1 [(0, (.l 0))], .push, none, false, 3, (some 0)⟩,
    ⟨.append 40 40 (.v 1) (.l 0), .push, none, false, 4, (some 1)⟩,
    ⟨.conv 40 9 (.l 0), .push, none, false, 5, none⟩,
    ⟨.mv (.l 0), (.var 2), none, true, 6, none⟩]) .ret)))), [.tmp (.v 2)]⟩
noncomputable def G83 (E : Env) : ZFn := ⟨21, [0, 3, 2], fun cy Y fuel =>
  (zSeq (zReg fun k => (zDst (.var 2) (vMv (.k (.str [])))) k)
  (zSeq (zReg fun k => (zDst (.var 1) (vMv (.k (.sl 0 [] true)))) k)
  (zSeq (zBlock 0 (zLoop fuel (zSeq (zSeq (zReg fun k => (zDst .push (vInt E (fGen .geq) .geq 42 false true (.v 0) (.k (.int .u64 128)))) k)
  (zCond (.l 0) zSkip (zExit 0)))
  (zSeq (zBlock 1 (zReg fun k => (zDst .push (vMv (.v 1))) ((zDst .push (vInt E (fGen .rem) .rem 42 false true (.v 0) (.k (.int .u64 128)))) ((zDst .push (vInt E fAdd .add 42 false true (.l 0) (.k (.int .u64 128)))) ((zDst .push (vConv .u8 (.l 0))) ((zStep E (cy Y) ⟨.buildSlice 40 1 [(0, (.l 0))], .push, none, false, 5, (some 0)⟩) ((zStep E (cy Y) ⟨.append 40 40 (.l 4) (.l 0), .push, none, false, 6, (some 1)⟩) ((zDst (.var 1) (vMv (.l 0))) k))))))))
  (zReg fun k => (zDst .push (vMv (.v 0))) ((zDst .push (vInt E (fGen .quo) .quo 42 false true (.l 0) (.k (.int .u64 128)))) ((zDst (.var 0) (vMv (.l 0))) k)))))))
  (zSeq (zReg fun k => (zDst .push (vConv .u8 (.v 0))) ((zStep E (cy Y) ⟨.buildSlice 40 1 [(0, (.l 0))], .push, none, false, 3, (some 0)⟩) ((zStep E (cy Y) ⟨.append 40 40 (.v 1) (.l 0), .push, none, false, 4, (some 1)⟩) ((zStep E (cy Y) ⟨.conv 40 9 (.l 0), .push, none, false, 5, none⟩) ((zDst (.var 2) (vMv (.l 0))) k)))))
  zRet)))), [.tmp (.v 2)]⟩
theorem G83_ok (fn : Nat → Option Func) (pu : Nat → Bool) (pr : Nat → List AV → Option (Heap → Option (Eff × Acc))) : ZOk ⟨Try.tyT, fn, pu, pr⟩ npT F83 (G83 ⟨Try.tyT, fn, pu, pr⟩) := ⟨rfl, rfl, rfl, fun cy Y k => by kernel_rfl⟩
noncomputable def F84 : FFn := ⟨20, [0, 1, 3, 2], (.seq (.reg [⟨.box 100 (.v 0), (.var 3), none, false, 0, (some 0)⟩]) (.seq (.reg [⟨.mkMap 101, .push, none, false, 0, (some 0)⟩,
    ⟨.alloc 101, (.var 2), none, false, 1, (some 1)⟩,
    ⟨.store 101 (.v 2) (.l 0), .none, none, false, 2, none⟩]) (.seq (.reg [⟨.load 81 (.v 1), .push, none, true, 0, none⟩]) (.block 0 (.range (.l 0) 2 [none, (some (.v 2)), none, (some (.v 3))] [none, none, (some (.v 3)), (some (.v 2)), none, none, none, none, none, none, none, none, none, none, none, none, none, none, none, none] [7] (codeAt [1, 1, 1, 0, 0] (bodyOf Try.f84)) (codeAt [1, 1, 1, 0, 1] (bodyOf Try.f84))))))), []⟩
noncomputable def G84 (E : Env) : ZFn := ⟨20, [0, 1, 3, 2], fun cy Y fuel =>
  (zSeq (zReg fun k => (zStep E (cy Y) ⟨.box 100 (.v 0), (.var 3), none, false, 0, (some 0)⟩) k)
  (zSeq (zReg fun k => (zStep E (cy Y) ⟨.mkMap 101, .push, none, false, 0, (some 0)⟩) ((zStep E (cy Y) ⟨.alloc 101, (.var 2), none, false, 1, (some 1)⟩) ((zStep E (cy Y) ⟨.store 101 (.v 2) (.l 0), .none, none, false, 2, none⟩) k)))
  (zSeq (zReg fun k => (zDstW .push (wLoad 1 false (.v 1))) k)
  (zBlock 0 (zRange cy Y (.l 0) 2 [none, (some (.v 2)), none, (some (.v 3))] [none, none, (some (.v 3)), (some (.v 2)), none, none, none, none, none, none, none, none, none, none, none, none, none, none, none, none] [7] (codeAt [1, 1, 1, 0, 0] (bodyOf Try.f84)) (codeAt [1, 1, 1, 0, 1] (bodyOf Try.f84))))))), []⟩
theorem G84_ok (fn : Nat → Option Func) (pu : Nat → Bool) (pr : Nat → List AV → Option (Heap → Option (Eff × Acc))) : ZOk ⟨Try.tyT, fn, pu, pr⟩ npT F84 (G84 ⟨Try.tyT, fn, pu, pr⟩) := ⟨rfl, rfl, rfl, fun cy Y k => by kernel_rfl⟩
noncomputable def F85 : FFn := ⟨14, [0, 4, 1], (.seq (.reg [⟨.len 102 (.v 0), .push, none, false, 1, none⟩,
    ⟨.mv (.l 0), (.var 1), none, true, 2, none⟩]) (.reg [⟨.conv 3 48 (.v 1), .push, none, false, 3, none⟩,
    ⟨.call 97 [(.l 0)], .push, none, false, 4, (some 0)⟩,
    ⟨.call 96 [(.v 0), (.k (.int .i64 0)), (.v 1), (.l 0), (.v 2)], .push, none, false, 6, (some 1)⟩])), []⟩
noncomputable def G85 (E : Env) : ZFn := ⟨14, [0, 4, 1], fun cy Y fuel =>
  (zSeq (zReg fun k => (zDst .push (vLenL (.v 0))) ((zDst (.var 1) (vMv (.l 0))) k))
  (zReg fun k => (zDst .push (vConv .u64 (.v 1))) ((zCall (cy Y) 97 [(.l 0)] .push) ((zCall (cy Y) 96 [(.v 0), (.k (.int .i64 0)), (.v 1), (.l 0), (.v 2)] .push) k)))), []⟩
theorem G85_ok (fn : Nat → Option Func) (pu : Nat → Bool) (pr : Nat → List AV → Option (Heap → Option (Eff × Acc))) : ZOk ⟨Try.tyT, fn, pu, pr⟩ npT F85 (G85 ⟨Try.tyT, fn, pu, pr⟩) := ⟨rfl, rfl, rfl, fun cy Y k => by kernel_rfl⟩
noncomputable def F86 : FFn := ⟨22, [0, 1, 3, 2, 4, 5], (.seq (.reg [⟨.box 104 (.v 0), (.var 2), none, false, 0, (some 0)⟩,
    ⟨.box 104 (.v 1), (.var 4), none, false, 1, (some 1)⟩,
    ⟨.mv (.k (.int .i64 0)), (.var 5), none, true, 2, none⟩]) (.seq (.dreg 4 [0, 1, 0, 7, 0, 16, 0, 112, 255, 0, 512, 0, 2048, 8191, 16383, 32767, 65535] [⟨.fieldAddr 104 (.v 2) 0, .push, none, true, 0, none⟩,
    ⟨.load 42 (.l 0), .push, none, true, 1, none⟩,
    ⟨.load 42 (.v 3), .push, none, true, 2, none⟩,
    ⟨.bin .sub 42 false false (.l 1) (.l 0), .push, none, false, 3, none⟩,
    ⟨.fieldAddr 104 (.v 4) 0, .push, none, true, 4, none⟩,
    ⟨.load 42 (.l 0), .push, none, true, 5, none⟩,
    ⟨.load 42 (.v 3), .push, none, true, 6, none⟩,
    ⟨.bin .sub 42 false false (.l 1) (.l 0), .push, none, false, 7, none⟩,
    ⟨.call 55 [(.l 4), (.l 0)], .push, none, false, 8, (some 0)⟩,
    ⟨.fieldAddr 104 (.v 2) 1, .push, none, true, 9, none⟩,
    ⟨.load 3 (.l 0), .push, none, true, 10, none⟩,
    ⟨.fieldAddr 104 (.v 4) 1, .push, none, true, 11, none⟩,
    ⟨.load 3 (.l 0), .push, none, true, 12, none⟩,
    ⟨.call 75 [(.l 2), (.l 0)], .push, none, false, 13, (some 1)⟩,
    ⟨.buildSlice 32 2 [(0, (.l 5)), (1, (.l 0))], .push, none, false, 14, (some 2)⟩,
    ⟨.call 54 [(.l 0)], .push, none, false, 15, (some 3)⟩,
    ⟨.mv (.l 0), (.var 5), none, true, 16, none⟩]) .ret)), [.tmp (.v 5)]⟩
noncomputable def G86 (E : Env) : ZFn := ⟨22, [0, 1, 3, 2, 4, 5], fun cy Y fuel =>
  (zSeq (zReg fun k => (zStep E (cy Y) ⟨.box 104 (.v 0), (.var 2), none, false, 0, (some 0)⟩) ((zStep E (cy Y) ⟨.box 104 (.v 1), (.var 4), none, false, 1, (some 1)⟩) ((zDst (.var 5) (vMv (.k (.int .i64 0)))) k)))
  (zSeq (zDreg 4 fun n0 k => (fun k sp => zDst .push (vFieldAddr 0 (.v 2)) (k sp)) ((zDstWD [0, 1, 0, 7, 0, 16, 0, 112, 255, 0, 512, 0, 2048, 8191, 16383, 32767, 65535] 1 .push (wLoad 1 false (.l 0))) ((zDstWD [0, 1, 0, 7, 0, 16, 0, 112, 255, 0, 512, 0, 2048, 8191, 16383, 32767, 65535] 2 .push (wLoad 1 false (.v 3))) ((fun k sp => zDst .push (vInt E fSub .sub 42 false false (.l 1) (.l 0)) (k sp)) ((fun k sp => zDst .push (vFieldAddr 0 (.v 4)) (k sp)) ((zDstWD [0, 1, 0, 7, 0, 16, 0, 112, 255, 0, 512, 0, 2048, 8191, 16383, 32767, 65535] 5 .push (wLoad 1 false (.l 0))) ((zDstWD [0, 1, 0, 7, 0, 16, 0, 112, 255, 0, 512, 0, 2048, 8191, 16383, 32767, 65535] 6 .push (wLoad 1 false (.v 3))) ((fun k sp => zDst .push (vInt E fSub .sub 42 false false (.l 1) (.l 0)) (k sp)) ((zCallD (cy Y) [0, 1, 0, 7, 0, 16, 0, 112, 255, 0, 512, 0, 2048, 8191, 16383, 32767, 65535] 8 55 [(.l 4), (.l 0)] .push) ((fun k sp => zDst .push (vFieldAddr 1 (.v 2)) (k sp)) ((zDstWD [0, 1, 0, 7, 0, 16, 0, 112, 255, 0, 512, 0, 2048, 8191, 16383, 32767, 65535] 10 .push (wLoad 1 false (.l 0))) ((fun k sp => zDst .push (vFieldAddr 1 (.v 4)) (k sp)) ((zDstWD [0, 1, 0, 7, 0, 16, 0, 112, 255, 0, 512, 0, 2048, 8191, 16383, 32767, 65535] 12 .push (wLoad 1 false (.l 0))) ((zCallD (cy Y) [0, 1, 0, 7, 0, 16, 0, 112, 255, 0, 512, 0, 2048, 8191, 16383, 32767, 65535] 13 75 [(.l 2), (.l 0)] .push) ((zStepD E (cy Y) [0, 1, 0, 7, 0, 16, 0, 112, 255, 0, 512, 0, 2048, 8191, 16383, 32767, 65535] n0 ⟨.buildSlice 32 2 [(0, (.l 5)), (1, (.l 0))], .push, none, false, 14, (some 2)⟩) ((zCallD (cy Y) [0, 1, 0, 7, 0, 16, 0, 112, 255, 0, 512, 0, 2048, 8191, 16383, 32767, 65535] 15 54 [(.l 0)] .push) ((fun k sp => zDst (.var 5) (vMv (.l 0)) (k sp)) k)))))))))))))))))
  zRet)), [.tmp (.v 5)]⟩
theorem G86_ok (fn : Nat → Option Func) (pu : Nat → Bool) (pr : Nat → List AV → Option (Heap → Option (Eff × Acc))) : ZOk ⟨Try.tyT, fn, pu, pr⟩ npT F86 (G86 ⟨Try.tyT, fn, pu, pr⟩) := ⟨rfl, rfl, rfl, fun cy Y k => by kernel_rfl⟩
noncomputable def F87 : FFn := ⟨17, [1, 7, 6, 5, 0, 4], (.seq (.reg [⟨.load 102 (.v 0), (.var 3), none, true, 0, none⟩,
    ⟨.len 102 (.v 3), (.var 2), none, false, 1, none⟩,
    ⟨.mv (.k (.int .i64 0)), (.var 1), none, true, 2, none⟩]) (.block 0 (.loop (.seq (.reg [⟨.bin .lss 3 false false (.v 1) (.v 2), .push, none, false, 0, none⟩]) (.seq (.cond (.l 0) .skip (.exit 0)) (.seq (.block 1 (.seq (.reg [⟨.indexAddr 102 (.v 3) (.v 1), .push, none, true, 0, none⟩,
    ⟨.load 104 (.l 0), .push, none, true, 1, none⟩,
    ⟨.alloc 104, (.var 5), none, false, 2, (some 0)⟩,
    ⟨.store 104 (.v 5) (.l 0), .none, none, false, 3, none⟩]) (.seq (.reg [⟨.fieldAddr 104 (.v 5) 1, .push, none, true, 1, none⟩,
    ⟨.load 3 (.l 0), .push, none, true, 2, none⟩,
    ⟨.callv (.v 4) [(.l 0)], .push, none, false, 3, (some 0)⟩,
    ⟨.un .not (.l 0), .push, none, false, 4, none⟩]) (.cond (.l 0) .ret .skip)))) (.reg [⟨.bin .add 3 false true (.v 1) (.k (.int .i64 1)), .push, none, false, 0, none⟩,
    ⟨.mv (.l 0), (.var 1), none, true, 1, none⟩]))))))), []⟩
noncomputable def G87 (E : Env) : ZFn := ⟨17, [1, 7, 6, 5, 0, 4], fun cy Y fuel =>
  (zSeq (zReg fun k => (zDstW (.var 3) (wLoad 1 false (.v 0))) ((zDst (.var 2) (vLenL (.v 3))) ((zDst (.var 1) (vMv (.k (.int .i64 0)))) k)))
  (zBlock 0 (zLoop fuel (zSeq (zReg fun k => (zDst .push (vInt E fLss .lss 3 false false (.v 1) (.v 2))) k)
  (zSeq (zCond (.l 0) zSkip (zExit 0))
  (zSeq (zBlock 1 (zSeq (zReg fun k => (zDst .push (vIndexAddr 2 (.v 3) (.v 1))) ((zDstW .push (wLoad 2 true (.l 0))) ((zStep E (cy Y) ⟨.alloc 104, (.var 5), none, false, 2, (some 0)⟩) ((zStep E (cy Y) ⟨.store 104 (.v 5) (.l 0), .none, none, false, 3, none⟩) k))))
  (zSeq (zReg fun k => (zDst .push (vFieldAddr 1 (.v 5))) ((zDstW .push (wLoad 1 false (.l 0))) ((zStep E (cy Y) ⟨.callv (.v 4) [(.l 0)], .push, none, false, 3, (some 0)⟩) ((zDst .push (vNot (.l 0))) k))))
  (zCond (.l 0) zRet zSkip))))
  (zReg fun k => (zDst .push (vInt E fAdd .add 3 false true (.v 1) (.k (.int .i64 1)))) ((zDst (.var 1) (vMv (.l 0))) k)))))))), []⟩
theorem G87_ok (fn : Nat → Option Func) (pu : Nat → Bool) (pr : Nat → List AV → Option (Heap → Option (Eff × Acc))) : ZOk ⟨Try.tyT, fn, pu, pr⟩ npT F87 (G87 ⟨Try.tyT, fn, pu, pr⟩) := ⟨rfl, rfl, rfl, fun cy Y k => by kernel_rfl⟩
noncomputable def F88 : FFn := ⟨19, [0, 8, 7, 1, 5, 4], (.seq (.reg [⟨.mv (.k (.int .i64 0)), (.var 5), none, true, 0, none⟩]) (.seq (.seq (.reg [⟨.len 32 (.v 0), (.var 2), none, false, 1, none⟩,
    ⟨.mv (.k (.int .i64 0)), (.var 1), none, true, 2, none⟩]) (.block 0 (.loop (.seq (.reg [⟨.bin .lss 3 false false (.v 1) (.v 2), .push, none, false, 0, none⟩]) (.seq (.cond (.l 0) .skip (.exit 0)) (.seq (.block 1 (.seq (.reg [⟨.mv (.v 1), (.var 4), none, true, 1, none⟩]) (.seq (.reg [⟨.indexAddr 32 (.v 0) (.v 4), .push, none, true, 3, none⟩,
    ⟨.load 3 (.l 0), .push, none, true, 4, none⟩,
    ⟨.bin .eql 3 false false (.v 3) (.l 0), .push, none, false, 5, none⟩]) (.cond (.l 0) (.seq (.reg [⟨.mv (.v 4), (.var 5), none, true, 1, none⟩]) .ret) .skip)))) (.reg [⟨.bin .add 3 false true (.v 1) (.k (.int .i64 1)), .push, none, false, 0, none⟩,
    ⟨.mv (.l 0), (.var 1), none, true, 1, none⟩]))))))) (.seq (.reg [⟨.mv (.k (.int .i64 (-1))), (.var 5), none, true, 0, none⟩]) .ret))), [.tmp (.v 5)]⟩
noncomputable def G88 (E : Env) : ZFn := ⟨19, [0, 8, 7, 1, 5, 4], fun cy Y fuel =>
  (zSeq (zReg fun k => (zDst (.var 5) (vMv (.k (.int .i64 0)))) k)
  (zSeq (zSeq (zReg fun k => (zDst (.var 2) (vLenL (.v 0))) ((zDst (.var 1) (vMv (.k (.int .i64 0)))) k))
  (zBlock 0 (zLoop fuel (zSeq (zReg fun k => (zDst .push (vInt E fLss .lss 3 false false (.v 1) (.v 2))) k)
  (zSeq (zCond (.l 0) zSkip (zExit 0))
  (zSeq (zBlock 1 (zSeq (zReg fun k => (zDst (.var 4) (vMv (.v 1))) k)
  (zSeq (zReg fun k => (zDst .push (vIndexAddr 1 (.v 0) (.v 4))) ((zDstW .push (wLoad 1 false (.l 0))) ((zDst .push (vInt E fEql .eql 3 false false (.v 3) (.l 0))) k)))
  (zCond (.l 0) (zSeq (zReg fun k => (zDst (.var 5) (vMv (.v 4))) k)
  zRet) zSkip))))
  (zReg fun k => (zDst .push (vInt E fAdd .add 3 false true (.v 1) (.k (.int .i64 1)))) ((zDst (.var 1) (vMv (.l 0))) k))))))))
  (zSeq (zReg fun k => (zDst (.var 5) (vMv (.k (.int .i64 (-1))))) k)
  zRet))), [.tmp (.v 5)]⟩
theorem G88_ok (fn : Nat → Option Func) (pu : Nat → Bool) (pr : Nat → List AV → Option (Heap → Option (Eff × Acc))) : ZOk ⟨Try.tyT, fn, pu, pr⟩ npT F88 (G88 ⟨Try.tyT, fn, pu, pr⟩) := ⟨rfl, rfl, rfl, fun cy Y k => by kernel_rfl⟩
noncomputable def F89 : FFn := ⟨6, [0, 2], (.seq (.reg [⟨.mv (.k (.bool false)), (.var 1), none, true, 0, none⟩]) (.seq (.reg [⟨.bin .neq 3 false false (.v 0) (.v 0), .push, none, false, 2, none⟩,
    ⟨.mv (.l 0), (.var 1), none, true, 3, none⟩]) .ret)), [.tmp (.v 1)]⟩
noncomputable def G89 (E : Env) : ZFn := ⟨6, [0, 2], fun cy Y fuel =>
  (zSeq (zReg fun k => (zDst (.var 1) (vMv (.k (.bool false)))) k)
  (zSeq (zReg fun k => (zDst .push (vInt E fNeq .neq 3 false false (.v 0) (.v 0))) ((zDst (.var 1) (vMv (.l 0))) k))
  zRet)), [.tmp (.v 1)]⟩
theorem G89_ok (fn : Nat → Option Func) (pu : Nat → Bool) (pr : Nat → List AV → Option (Heap → Option (Eff × Acc))) : ZOk ⟨Try.tyT, fn, pu, pr⟩ npT F89 (G89 ⟨Try.tyT, fn, pu, pr⟩) := ⟨rfl, rfl, rfl, fun cy Y k => by kernel_rfl⟩
noncomputable def F90 : FFn := ⟨22, [3, 1, 0], (.seq (.reg [⟨.mv (.k (.int .i64 1)), (.var 0), none, true, 0, none⟩]) (.block 0 (.loop (.seq (.seq (.reg [⟨.load 91 (.v 1), .push, none, true, 1, none⟩,
    ⟨.len 91 (.l 0), .push, none, false, 2, none⟩,
    ⟨.bin .lss 3 false false (.v 0) (.l 0), .push, none, false, 3, none⟩]) (.cond (.l 0) .skip (.exit 0))) (.seq (.block 1 (.seq (.dreg 1 [0, 0, 0, 4, 14, 30, 0, 0, 192, 448, 1023, 2047] [⟨.load 91 (.v 1), .push, none, true, 1, none⟩,
    ⟨.bin .sub 3 false true (.v 0) (.k (.int .i64 1)), .push, none, false, 3, none⟩,
    ⟨.indexAddr 91 (.l 1) (.l 0), .push, none, true, 4, none⟩,
    ⟨.load 9 (.l 0), .push, none, true, 5, none⟩,
    ⟨.load 91 (.v 1), .push, none, true, 6, none⟩,
    ⟨.indexAddr 91 (.l 0) (.v 0), .push, none, true, 8, none⟩,
    ⟨.load 9 (.l 0), .push, none, true, 9, none⟩,
    ⟨.callv (.v 2) [(.l 3), (.l 0)], .push, none, false, 10, (some 0)⟩,
    ⟨.un .not (.l 0), .push, none, false, 11, none⟩]) (.cond (.l 0) .ret .skip))) (.reg [⟨.mv (.v 0), .push, none, true, 0, none⟩,
    ⟨.bin .add 3 false true (.l 0) (.k (.int .i64 1)), .push, none, false, 1, none⟩,
    ⟨.mv (.l 0), (.var 0), none, true, 2, none⟩])))))), []⟩
noncomputable def G90 (E : Env) : ZFn := ⟨22, [3, 1, 0], fun cy Y fuel =>
  (zSeq (zReg fun k => (zDst (.var 0) (vMv (.k (.int .i64 1)))) k)
  (zBlock 0 (zLoop fuel (zSeq (zSeq (zReg fun k => (zDstW .push (wLoad 1 false (.v 1))) ((zDst .push (vLenL (.l 0))) ((zDst .push (vInt E fLss .lss 3 false false (.v 0) (.l 0))) k)))
  (zCond (.l 0) zSkip (zExit 0)))
  (zSeq (zBlock 1 (zSeq (zDreg 1 fun n0 k => (zDstWD [0, 0, 0, 4, 14, 30, 0, 0, 192, 448, 1023, 2047] 1 .push (wLoad 1 false (.v 1))) ((fun k sp => zDst .push (vInt E fSub .sub 3 false true (.v 0) (.k (.int .i64 1))) (k sp)) ((fun k sp => zDst .push (vIndexAddr 1 (.l 1) (.l 0)) (k sp)) ((zDstWD [0, 0, 0, 4, 14, 30, 0, 0, 192, 448, 1023, 2047] 5 .push (wLoad 1 false (.l 0))) ((zDstWD [0, 0, 0, 4, 14, 30, 0, 0, 192, 448, 1023, 2047] 6 .push (wLoad 1 false (.v 1))) ((fun k sp => zDst .push (vIndexAddr 1 (.l 0) (.v 0)) (k sp)) ((zDstWD [0, 0, 0, 4, 14, 30, 0, 0, 192, 448, 1023, 2047] 9 .push (wLoad 1 false (.l 0))) ((zStepD E (cy Y) [0, 0, 0, 4, 14, 30, 0, 0, 192, 448, 1023, 2047] n0 ⟨.callv (.v 2) [(.l 3), (.l 0)], .push, none, false, 10, (some 0)⟩) ((fun k sp => zDst .push (vNot (.l 0)) (k sp)) k)))))))))
  (zCond (.l 0) zRet zSkip)))
  (zReg fun k => (zDst .push (vMv (.v 0))) ((zDst .push (vInt E fAdd .add 3 false true (.l 0) (.k (.int .i64 1)))) ((zDst (.var 0) (vMv (.l 0))) k)))))))), []⟩
theorem G90_ok (fn : Nat → Option Func) (pu : Nat → Bool) (pr : Nat → List AV → Option (Heap → Option (Eff × Acc))) : ZOk ⟨Try.tyT, fn, pu, pr⟩ npT F90 (G90 ⟨Try.tyT, fn, pu, pr⟩) := ⟨rfl, rfl, rfl, fun cy Y k => by kernel_rfl⟩
noncomputable def F92 : FFn := ⟨10, [0, 1], (.reg [⟨.len 23 (.v 0), .push, none, false, 2, none⟩,
    ⟨.bin .sub 3 false false (.l 0) (.v 1), .push, none, false, 4, none⟩,
    ⟨.call 98 [(.v 0), (.l 0)], .push, none, false, 5, (some 0)⟩]), []⟩
noncomputable def G92 (E : Env) : ZFn := ⟨10, [0, 1], fun cy Y fuel =>
  (zReg fun k => (zDst .push (vLenL (.v 0))) ((zDst .push (vInt E fSub .sub 3 false false (.l 0) (.v 1))) ((zCall (cy Y) 98 [(.v 0), (.l 0)] .push) k))), []⟩
theorem G92_ok (fn : Nat → Option Func) (pu : Nat → Bool) (pr : Nat → List AV → Option (Heap → Option (Eff × Acc))) : ZOk ⟨Try.tyT, fn, pu, pr⟩ npT F92 (G92 ⟨Try.tyT, fn, pu, pr⟩) := ⟨rfl, rfl, rfl, fun cy Y k => by kernel_rfl⟩
noncomputable def F93 : FFn := ⟨8, [0, 1, 4], (.seq (.reg [⟨.mv (.k (.int .i64 0)), (.var 2), none, true, 0, none⟩]) (.seq (.reg [⟨.call 99 [(.v 0), (.v 1)], .push, none, false, 2, (some 0)⟩,
    ⟨.mv (.l 0), (.var 2), none, true, 3, none⟩]) .ret)), [.tmp (.v 2)]⟩
noncomputable def G93 (E : Env) : ZFn := ⟨8, [0, 1, 4], fun cy Y fuel =>
  (zSeq (zReg fun k => (zDst (.var 2) (vMv (.k (.int .i64 0)))) k)
  (zSeq (zReg fun k => (zStep E (cy Y) ⟨.call 99 [(.v 0), (.v 1)], .push, none, false, 2, (some 0)⟩) ((zDst (.var 2) (vMv (.l 0))) k))
  zRet)), [.tmp (.v 2)]⟩
theorem G93_ok (fn : Nat → Option Func) (pu : Nat → Bool) (pr : Nat → List AV → Option (Heap → Option (Eff × Acc))) : ZOk ⟨Try.tyT, fn, pu, pr⟩ npT F93 (G93 ⟨Try.tyT, fn, pu, pr⟩) := ⟨rfl, rfl, rfl, fun cy Y k => by kernel_rfl⟩
noncomputable def F95 : FFn := ⟨10, [0, 1], (.reg [⟨.len 22 (.v 0), .push, none, false, 2, none⟩,
    ⟨.bin .sub 3 false false (.l 0) (.v 1), .push, none, false, 4, none⟩,
    ⟨.call 100 [(.v 0), (.l 0)], .push, none, false, 5, (some 0)⟩]), []⟩
noncomputable def G95 (E : Env) : ZFn := ⟨10, [0, 1], fun cy Y fuel =>
  (zReg fun k => (zDst .push (vLenL (.v 0))) ((zDst .push (vInt E fSub .sub 3 false false (.l 0) (.v 1))) ((zCall (cy Y) 100 [(.v 0), (.l 0)] .push) k))), []⟩
theorem G95_ok (fn : Nat → Option Func) (pu : Nat → Bool) (pr : Nat → List AV → Option (Heap → Option (Eff × Acc))) : ZOk ⟨Try.tyT, fn, pu, pr⟩ npT F95 (G95 ⟨Try.tyT, fn, pu, pr⟩) := ⟨rfl, rfl, rfl, fun cy Y k => by kernel_rfl⟩
noncomputable def F96 : FFn := ⟨148, [2, 1, 12, 0, 4, 3, 10, 14, 13, 11, 15, 17, 16, 18, 19, 20], (.seq (.reg [⟨.mv (.k (.bool true)), (.var 6), none, true, 0, none⟩]) (.seq (.reg [⟨.mv (.k (.bool true)), (.var 9), none, true, 0, none⟩]) (.block 0 (.loop (.block 1 (.seq (.reg [⟨.bin .sub 3 false false (.v 0) (.v 1), .push, none, false, 2, none⟩,
    ⟨.mv (.l 0), (.var 2), none, true, 3, none⟩]) (.seq (.seq (.reg [⟨.bin .leq 3 false true (.v 2) (.k (.int .i64 12)), .push, none, false, 1, none⟩]) (.cond (.l 0) (.seq (.reg [⟨.call 101 [(.v 3), (.v 1), (.v 0), (.v 4)], .push, none, false, 4, (some 0)⟩]) .ret) .skip)) (.seq (.seq (.reg [⟨.bin .eql 3 false true (.v 5) (.k (.int .i64 0)), .push, none, false, 1, none⟩]) (.cond (.l 0) (.seq (.reg [⟨.call 102 [(.v 3), (.v 1), (.v 0), (.v 4)], .push, none, false, 4, (some 0)⟩]) .ret) .skip)) (.seq (.seq (.reg [⟨.un .not (.v 6), .push, none, false, 1, none⟩]) (.cond (.l 0) (.seq (.reg [⟨.call 103 [(.v 3), (.v 1), (.v 0), (.v 4)], .push, none, false, 4, (some 0)⟩]) (.reg [⟨.mv (.v 5), .push, none, true, 0, none⟩,
    ⟨.bin .sub 3 false true (.l 0) (.k (.int .i64 1)), .push, none, false, 1, none⟩,
    ⟨.mv (.l 0), (.var 5), none, true, 2, none⟩])) .skip)) (.seq (.reg [⟨.call 104 [(.v 3), (.v 1), (.v 0), (.v 4)], .push, none, false, 4, (some 0)⟩,
    ⟨.extract (.l 0) 0, .push, none, true, 6, none⟩,
    ⟨.extract (.l 1) 1, .push, none, true, 7, none⟩,
    ⟨.mv (.l 1), (.var 8), none, true, 8, none⟩,
    ⟨.mv (.l 0), (.var 7), none, true, 9, none⟩]) (.seq (.seq (.reg [⟨.bin .eql 114 false true (.v 7) (.k (.int .i64 2)), .push, none, false, 1, none⟩]) (.cond (.l 0) (.seq (.reg [⟨.call 105 [(.v 3), (.v 1), (.v 0), (.v 4)], .push, none, false, 4, (some 0)⟩]) (.seq (.reg [⟨.bin .sub 3 false true (.v 0) (.k (.int .i64 1)), .push, none, false, 1, none⟩,
    ⟨.mv (.v 8), .push, none, true, 2, none⟩,
    ⟨.bin .sub 3 false false (.l 0) (.v 1), .push, none, false, 4, none⟩,
    ⟨.bin .sub 3 false false (.l 2) (.l 0), .push, none, false, 5, none⟩,
    ⟨.mv (.l 0), (.var 8), none, true, 6, none⟩]) (.reg [⟨.mv (.k (.int .i64 1)), (.var 7), none, true, 0, none⟩]))) .skip)) (.seq (.seq (.reg [⟨.mv (.v 9), .push, (some ((.v 6), true)), true, 2, none⟩,
    ⟨.pick (.v 6) (.l 0) (.k (.bool false)), .push, none, true, 3, none⟩,
    ⟨.mv (.v 7), .push, (some ((.l 0), true)), true, 5, none⟩,
    ⟨.bin .eql 114 false true (.l 0) (.k (.int .i64 1)), .push, (some ((.l 1), true)), false, 6, none⟩,
    ⟨.pick (.l 2) (.l 0) (.k (.bool false)), .push, none, true, 7, none⟩]) (.cond (.l 0) (.seq (.reg [⟨.call 106 [(.v 3), (.v 1), (.v 0), (.v 4)], .push, none, false, 4, (some 0)⟩]) (.cond (.l 0) .ret .skip)) .skip)) (.seq (.seq (.dreg 1 [0, 1, 3, 7, 7, 7, 39, 119, 247, 7, 7, 1543, 3591, 8191, 16383, 32767, 65535] [⟨.bin .gtr 3 false true (.v 1) (.k (.int .i64 0)), .push, none, false, 1, none⟩,
    ⟨.mv (.v 4), .push, (some ((.l 0), true)), true, 3, none⟩,
    ⟨.mv (.v 3), .push, (some ((.l 1), true)), true, 4, none⟩,
    ⟨.mv (.v 1), .push, (some ((.l 2), true)), true, 5, none⟩,
    ⟨.bin .sub 3 false true (.l 0) (.k (.int .i64 1)), .push, (some ((.l 3), true)), false, 6, none⟩,
    ⟨.indexAddr 102 (.l 2) (.l 0), .push, (some ((.l 4), true)), true, 7, none⟩,
    ⟨.load 104 (.l 0), .push, (some ((.l 5), true)), true, 8, none⟩,
    ⟨.mv (.v 3), .push, (some ((.l 6), true)), true, 9, none⟩,
    ⟨.mv (.v 8), .push, (some ((.l 7), true)), true, 10, none⟩,
    ⟨.indexAddr 102 (.l 1) (.l 0), .push, (some ((.l 8), true)), true, 11, none⟩,
    ⟨.load 104 (.l 0), .push, (some ((.l 9), true)), true, 12, none⟩,
    ⟨.callv (.l 9) [(.l 4), (.l 0)], .push, (some ((.l 10), true)), false, 13, (some 0)⟩,
    ⟨.bin .lss 3 false true (.l 0) (.k (.int .i64 0)), .push, (some ((.l 11), true)), false, 14, none⟩,
    ⟨.un .not (.l 0), .push, (some ((.l 12), true)), false, 15, none⟩,
    ⟨.pick (.l 13) (.l 0) (.k (.bool false)), .push, none, true, 16, none⟩]) (.cond (.l 0) (.seq (.reg [⟨.call 107 [(.v 3), (.v 1), (.v 0), (.v 8), (.v 4)], .push, none, false, 5, (some 0)⟩,
    ⟨.mv (.l 0), (.var 10), none, true, 6, none⟩]) (.seq (.reg [⟨.mv (.v 10), (.var 1), none, true, 1, none⟩]) (.exit 1))) .skip)) (.seq (.reg [⟨.call 108 [(.v 3), (.v 1), (.v 0), (.v 8), (.v 4)], .push, none, false, 5, (some 0)⟩,
    ⟨.extract (.l 0) 0, .push, none, true, 7, none⟩,
    ⟨.extract (.l 1) 1, .push, none, true, 8, none⟩,
    ⟨.mv (.l 1), (.var 12), none, true, 9, none⟩,
    ⟨.mv (.l 0), (.var 11), none, true, 10, none⟩]) (.seq (.reg [⟨.mv (.v 11), (.var 9), none, true, 1, none⟩]) (.seq (.reg [⟨.bin .sub 3 false false (.v 12) (.v 1), .push, none, false, 2, none⟩,
    ⟨.bin .sub 3 false false (.v 0) (.v 12), .push, none, false, 5, none⟩,
    ⟨.mv (.l 1), (.var 13), none, true, 6, none⟩,
    ⟨.mv (.l 0), (.var 14), none, true, 7, none⟩]) (.seq (.reg [⟨.bin .quo 3 false true (.v 2) (.k (.int .i64 8)), .push, none, false, 1, none⟩,
    ⟨.mv (.l 0), (.var 15), none, true, 2, none⟩]) (.seq (.reg [⟨.bin .lss 3 false false (.v 13) (.v 14), .push, none, false, 2, none⟩]) (.cond (.l 0) (.seq (.reg [⟨.bin .geq 3 false false (.v 13) (.v 15), .push, none, false, 2, none⟩,
    ⟨.mv (.l 0), (.var 6), none, true, 3, none⟩]) (.seq (.reg [⟨.call 96 [(.v 3), (.v 1), (.v 12), (.v 5), (.v 4)], .push, none, false, 5, (some 0)⟩]) (.reg [⟨.bin .add 3 false true (.v 12) (.k (.int .i64 1)), .push, none, false, 1, none⟩,
    ⟨.mv (.l 0), (.var 1), none, true, 2, none⟩]))) (.seq (.reg [⟨.bin .geq 3 false false (.v 14) (.v 15), .push, none, false, 2, none⟩,
    ⟨.mv (.l 0), (.var 6), none, true, 3, none⟩]) (.seq (.reg [⟨.bin .add 3 false true (.v 12) (.k (.int .i64 1)), .push, none, false, 2, none⟩,
    ⟨.call 96 [(.v 3), (.l 0), (.v 0), (.v 5), (.v 4)], .push, none, false, 6, (some 0)⟩]) (.reg [⟨.mv (.v 12), (.var 0), none, true, 1, none⟩])))))))))))))))))))))), []⟩
noncomputable def G96 (E : Env) : ZFn := ⟨148, [2, 1, 12, 0, 4, 3, 10, 14, 13, 11, 15, 17, 16, 18, 19, 20], fun cy Y fuel =>
  (zSeq (zReg fun k => (zDst (.var 6) (vMv (.k (.bool true)))) k)
  (zSeq (zReg fun k => (zDst (.var 9) (vMv (.k (.bool true)))) k)
  (zBlock 0 (zLoop fuel (zBlock 1 (zSeq (zReg fun k => (zDst .push (vInt E fSub .sub 3 false false (.v 0) (.v 1))) ((zDst (.var 2) (vMv (.l 0))) k))
  (zSeq (zSeq (zReg fun k => (zDst .push (vInt E (fGen .leq) .leq 3 false true (.v 2) (.k (.int .i64 12)))) k)
  (zCond (.l 0) (zSeq (zReg fun k => (zCall (cy Y) 101 [(.v 3), (.v 1), (.v 0), (.v 4)] .push) k)
  zRet) zSkip))
  (zSeq (zSeq (zReg fun k => (zDst .push (vInt E fEql .eql 3 false true (.v 5) (.k (.int .i64 0)))) k)
  (zCond (.l 0) (zSeq (zReg fun k => (zCall (cy Y) 102 [(.v 3), (.v 1), (.v 0), (.v 4)] .push) k)
  zRet) zSkip))
  (zSeq (zSeq (zReg fun k => (zDst .push (vNot (.v 6))) k)
  (zCond (.l 0) (zSeq (zReg fun k => (zCall (cy Y) 103 [(.v 3), (.v 1), (.v 0), (.v 4)] .push) k)
  (zReg fun k => (zDst .push (vMv (.v 5))) ((zDst .push (vInt E fSub .sub 3 false true (.l 0) (.k (.int .i64 1)))) ((zDst (.var 5) (vMv (.l 0))) k)))) zSkip))
  (zSeq (zReg fun k => (zCall (cy Y) 104 [(.v 3), (.v 1), (.v 0), (.v 4)] .push) ((zDst .push (vExtract 0 (.l 0))) ((zDst .push (vExtract 1 (.l 1))) ((zDst (.var 8) (vMv (.l 1))) ((zDst (.var 7) (vMv (.l 0))) k)))))
  (zSeq (zSeq (zReg fun k => (zDst .push (vInt E fEql .eql 114 false true (.v 7) (.k (.int .i64 2)))) k)
  (zCond (.l 0) (zSeq (zReg fun k => (zCall (cy Y) 105 [(.v 3), (.v 1), (.v 0), (.v 4)] .push) k)
  (zSeq (zReg fun k => (zDst .push (vInt E fSub .sub 3 false true (.v 0) (.k (.int .i64 1)))) ((zDst .push (vMv (.v 8))) ((zDst .push (vInt E fSub .sub 3 false false (.l 0) (.v 1))) ((zDst .push (vInt E fSub .sub 3 false false (.l 2) (.l 0))) ((zDst (.var 8) (vMv (.l 0))) k)))))
  (zReg fun k => (zDst (.var 7) (vMv (.k (.int .i64 1)))) k))) zSkip))
  (zSeq (zSeq (zReg fun k => (zG (.v 6) true .push (zDst .push (vMv (.v 9)))) ((zDst .push (vPick (.v 6) (.l 0) (.k (.bool false)))) ((zG (.l 0) true .push (zDst .push (vMv (.v 7)))) ((zG (.l 1) true .push (zDst .push (vInt E fEql .eql 114 false true (.l 0) (.k (.int .i64 1))))) ((zDst .push (vPick (.l 2) (.l 0) (.k (.bool false)))) k)))))
  (zCond (.l 0) (zSeq (zReg fun k => (zCall (cy Y) 106 [(.v 3), (.v 1), (.v 0), (.v 4)] .push) k)
  (zCond (.l 0) zRet zSkip)) zSkip))
  (zSeq (zSeq (zDreg 1 fun n0 k => (fun k sp => zDst .push (vInt E fGtr .gtr 3 false true (.v 1) (.k (.int .i64 0))) (k sp)) ((zGD (.l 0) true .push (fun k sp => zDst .push (vMv (.v 4)) (k sp))) ((zGD (.l 1) true .push (fun k sp => zDst .push (vMv (.v 3)) (k sp))) ((zGD (.l 2) true .push (fun k sp => zDst .push (vMv (.v 1)) (k sp))) ((zGD (.l 3) true .push (fun k sp => zDst .push (vInt E fSub .sub 3 false true (.l 0) (.k (.int .i64 1))) (k sp))) ((zGD (.l 4) true .push (fun k sp => zDst .push (vIndexAddr 2 (.l 2) (.l 0)) (k sp))) ((zGD (.l 5) true .push (zDstWD [0, 1, 3, 7, 7, 7, 39, 119, 247, 7, 7, 1543, 3591, 8191, 16383, 32767, 65535] 8 .push (wLoad 2 true (.l 0)))) ((zGD (.l 6) true .push (fun k sp => zDst .push (vMv (.v 3)) (k sp))) ((zGD (.l 7) true .push (fun k sp => zDst .push (vMv (.v 8)) (k sp))) ((zGD (.l 8) true .push (fun k sp => zDst .push (vIndexAddr 2 (.l 1) (.l 0)) (k sp))) ((zGD (.l 9) true .push (zDstWD [0, 1, 3, 7, 7, 7, 39, 119, 247, 7, 7, 1543, 3591, 8191, 16383, 32767, 65535] 12 .push (wLoad 2 true (.l 0)))) ((zGD (.l 10) true .push (zStepD E (cy Y) [0, 1, 3, 7, 7, 7, 39, 119, 247, 7, 7, 1543, 3591, 8191, 16383, 32767, 65535] n0 ⟨.callv (.l 9) [(.l 4), (.l 0)], .push, none, false, 13, (some 0)⟩)) ((zGD (.l 11) true .push (fun k sp => zDst .push (vInt E fLss .lss 3 false true (.l 0) (.k (.int .i64 0))) (k sp))) ((zGD (.l 12) true .push (fun k sp => zDst .push (vNot (.l 0)) (k sp))) ((fun k sp => zDst .push (vPick (.l 13) (.l 0) (.k (.bool false))) (k sp)) k)))))))))))))))
  (zCond (.l 0) (zSeq (zReg fun k => (zCall (cy Y) 107 [(.v 3), (.v 1), (.v 0), (.v 8), (.v 4)] .push) ((zDst (.var 10) (vMv (.l 0))) k))
  (zSeq (zReg fun k => (zDst (.var 1) (vMv (.v 10))) k)
  (zExit 1))) zSkip))
  (zSeq (zReg fun k => (zCall (cy Y) 108 [(.v 3), (.v 1), (.v 0), (.v 8), (.v 4)] .push) ((zDst .push (vExtract 0 (.l 0))) ((zDst .push (vExtract 1 (.l 1))) ((zDst (.var 12) (vMv (.l 1))) ((zDst (.var 11) (vMv (.l 0))) k)))))
  (zSeq (zReg fun k => (zDst (.var 9) (vMv (.v 11))) k)
  (zSeq (zReg fun k => (zDst .push (vInt E fSub .sub 3 false false (.v 12) (.v 1))) ((zDst .push (vInt E fSub .sub 3 false false (.v 0) (.v 12))) ((zDst (.var 13) (vMv (.l 1))) ((zDst (.var 14) (vMv (.l 0))) k))))
  (zSeq (zReg fun k => (zDst .push (vInt E (fGen .quo) .quo 3 false true (.v 2) (.k (.int .i64 8)))) ((zDst (.var 15) (vMv (.l 0))) k))
  (zSeq (zReg fun k => (zDst .push (vInt E fLss .lss 3 false false (.v 13) (.v 14))) k)
  (zCond (.l 0) (zSeq (zReg fun k => (zDst .push (vInt E (fGen .geq) .geq 3 false false (.v 13) (.v 15))) ((zDst (.var 6) (vMv (.l 0))) k))
  (zSeq (zReg fun k => (zCall (cy Y) 96 [(.v 3), (.v 1), (.v 12), (.v 5), (.v 4)] .push) k)
  (zReg fun k => (zDst .push (vInt E fAdd .add 3 false true (.v 12) (.k (.int .i64 1)))) ((zDst (.var 1) (vMv (.l 0))) k)))) (zSeq (zReg fun k => (zDst .push (vInt E (fGen .geq) .geq 3 false false (.v 14) (.v 15))) ((zDst (.var 6) (vMv (.l 0))) k))
  (zSeq (zReg fun k => (zDst .push (vInt E fAdd .add 3 false true (.v 12) (.k (.int .i64 1)))) ((zCall (cy Y) 96 [(.v 3), (.l 0), (.v 0), (.v 5), (.v 4)] .push) k))
  (zReg fun k => (zDst (.var 0) (vMv (.v 12))) k)))))))))))))))))))))), []⟩
theorem G96_ok (fn : Nat → Option Func) (pu : Nat → Bool) (pr : Nat → List AV → Option (Heap → Option (Eff × Acc))) : ZOk ⟨Try.tyT, fn, pu, pr⟩ npT F96 (G96 ⟨Try.tyT, fn, pu, pr⟩) := ⟨rfl, rfl, rfl, fun cy Y k => by kernel_rfl⟩
end Go.Proofs.PxTry
