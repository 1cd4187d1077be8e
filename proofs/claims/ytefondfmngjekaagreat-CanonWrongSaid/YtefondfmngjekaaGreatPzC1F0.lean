/- The functions of the seat, in one breath: part 0. -/
import Derived.Test.YtefondfmngjekaaGreatPzE
import Derived.Test.YtefondfmngjekaaGreatProg
import Derived.Test.YtefondfmngjekaaGreatPxEnvC1
import Derived.KernelRfl
set_option maxRecDepth 100000
set_option linter.unusedVariables false
set_option linter.unusedSimpArgs false
namespace Go.Proofs.PxC1
open Go Go.Px Go.Proofs
def toldT : List Nat := [4, 7, 16, 45, 143]
def npT (f : Nat) : Bool := !(toldT.any fun g => Nat.beq g f)
noncomputable def F3 : FFn := ⟨66, [7, 0, 5, 6, 1, 8, 10, 4], (.seq (.reg [⟨.mv (.k (.bool false)), (.var 7), none, true, 0, none⟩]) (.seq (.seq (.reg [⟨.call 4 [], .push, none, false, 0, (some 0)⟩,
    ⟨.un .not (.l 0), .push, none, false, 1, none⟩]) (.cond (.l 0) (.seq (.reg [⟨.mv (.k (.bool false)), (.var 7), none, true, 0, none⟩]) .ret) .skip)) (.seq (.reg [⟨.call 5 [(.k (.int .i64 1)), (.k (.sl 0 [] true))], .push, none, false, 0, (some 0)⟩,
    ⟨.buildSlice 27 1 [(0, (.k (.str [97])))], .push, none, false, 1, (some 1)⟩,
    ⟨.build 32 [(2, (.l 0))], .push, none, false, 2, none⟩,
    ⟨.alloc 25, (.var 2), none, false, 3, (some 2)⟩,
    ⟨.alloc 32, (.var 3), none, false, 4, (some 3)⟩,
    ⟨.store 25 (.v 2) (.l 2), .none, none, false, 5, none⟩,
    ⟨.store 32 (.v 3) (.l 0), .none, none, false, 6, none⟩]) (.seq (.seq (.reg [⟨.mv (.k (.int .i64 0)), (.var 0), none, true, 0, none⟩]) (.block 0 (.loop (.seq (.seq (.reg [⟨.bin .rem 5 false true (.v 1) (.k (.int .u8 10)), .push, none, false, 2, none⟩,
    ⟨.conv 5 3 (.l 0), .push, none, false, 3, none⟩,
    ⟨.bin .lss 3 false false (.v 0) (.l 0), .push, none, false, 4, none⟩]) (.cond (.l 0) .skip (.exit 0))) (.seq (.block 1 (.seq (.dreg 4 [0, 0, 3, 7, 0, 0, 48, 112, 15, 511] [⟨.call 5 [(.k (.int .i64 3)), (.k (.sl 0 [] true))], .push, none, false, 0, (some 0)⟩,
    ⟨.load 25 (.v 2), .push, none, true, 1, none⟩,
    ⟨.buildSlice 23 2 [(0, (.l 1)), (1, (.l 0))], .push, none, false, 2, (some 1)⟩,
    ⟨.call 5 [(.k (.int .i64 5)), (.l 0)], .push, none, false, 3, (some 2)⟩,
    ⟨.build 32 [], .push, none, false, 4, none⟩,
    ⟨.load 32 (.v 3), .push, none, true, 5, none⟩,
    ⟨.buildSlice 30 2 [(0, (.l 1)), (1, (.l 0))], .push, none, false, 6, (some 3)⟩,
    ⟨.build 32 [(4, (.l 0))], .push, none, false, 7, none⟩,
    ⟨.store 25 (.v 2) (.l 4), .none, none, false, 8, none⟩,
    ⟨.store 32 (.v 3) (.l 0), .none, none, false, 9, none⟩]) (.seq (.reg []) (.cond (.v 4) (.seq (.reg [⟨.mv (.k (.int .i64 0)), (.var 5), none, true, 0, none⟩]) (.block 2 (.loop (.seq (.seq (.reg [⟨.bin .lss 3 false true (.v 5) (.k (.int .i64 45)), .push, none, false, 1, none⟩]) (.cond (.l 0) .skip (.exit 2))) (.seq (.block 3 (.dreg 3 [0, 1, 0, 4, 12, 28, 60, 0, 128, 384, 896, 0, 2048, 6144, 14336, 32640, 65408, 130944, 262140, 524287, 1048575, 2097151] [⟨.fieldAddr 32 (.v 3) 4, .push, none, true, 0, none⟩,
    ⟨.load 30 (.l 0), .push, none, true, 1, none⟩,
    ⟨.fieldAddr 32 (.v 3) 4, .push, none, true, 2, none⟩,
    ⟨.load 30 (.l 0), .push, none, true, 3, none⟩,
    ⟨.indexAddr 30 (.l 0) (.k (.int .i64 0)), .push, none, true, 4, none⟩,
    ⟨.fieldAddr 32 (.l 0) 2, .push, none, true, 5, none⟩,
    ⟨.load 27 (.l 0), .push, none, true, 6, none⟩,
    ⟨.bin .quo 3 false true (.v 5) (.k (.int .i64 26)), .push, none, false, 8, none⟩,
    ⟨.bin .add 3 true false (.k (.int .i64 97)) (.l 0), .push, none, false, 9, none⟩,
    ⟨.conv 3 5 (.l 0), .push, none, false, 10, none⟩,
    ⟨.bin .rem 3 false true (.v 5) (.k (.int .i64 26)), .push, none, false, 12, none⟩,
    ⟨.bin .add 3 true false (.k (.int .i64 97)) (.l 0), .push, none, false, 13, none⟩,
    ⟨.conv 3 5 (.l 0), .push, none, false, 14, none⟩,
    ⟨.buildSlice 33 2 [(0, (.l 3)), (1, (.l 0))], .push, none, false, 15, (some 0)⟩,
    ⟨.conv 33 9 (.l 0), .push, none, false, 16, none⟩,
    ⟨.buildSlice 27 1 [(0, (.l 0))], .push, none, false, 17, (some 1)⟩,
    ⟨.append 27 27 (.l 9) (.l 0), .push, none, false, 18, (some 2)⟩,
    ⟨.indexAddr 30 (.l 15) (.k (.int .i64 0)), .push, none, true, 19, none⟩,
    ⟨.fieldAddr 32 (.l 0) 2, .push, none, true, 20, none⟩,
    ⟨.store 27 (.l 0) (.l 2), .none, none, false, 21, none⟩])) (.reg [⟨.mv (.v 5), .push, none, true, 0, none⟩,
    ⟨.bin .add 3 false true (.l 0) (.k (.int .i64 1)), .push, none, false, 1, none⟩,
    ⟨.mv (.l 0), (.var 5), none, true, 2, none⟩])))))) .skip)))) (.reg [⟨.mv (.v 0), .push, none, true, 0, none⟩,
    ⟨.bin .add 3 false true (.l 0) (.k (.int .i64 1)), .push, none, false, 1, none⟩,
    ⟨.mv (.l 0), (.var 0), none, true, 2, none⟩])))))) (.seq (.reg [⟨.load 25 (.v 2), .push, none, true, 0, none⟩,
    ⟨.load 32 (.v 3), .push, none, true, 1, none⟩,
    ⟨.call 6 [(.l 1), (.l 0)], .push, none, false, 2, (some 0)⟩,
    ⟨.extract (.l 0) 0, .push, none, true, 4, none⟩,
    ⟨.extract (.l 1) 1, .push, none, true, 5, none⟩,
    ⟨.alloc 32, .push, none, false, 6, (some 1)⟩,
    ⟨.store 32 (.l 0) (.l 2), .none, none, false, 7, none⟩,
    ⟨.mv (.l 1), (.var 6), none, true, 8, none⟩]) (.seq (.reg [⟨.mkIface 39 (.k (.int .i64 14)), .push, none, false, 1, none⟩,
    ⟨.call 7 [(.v 6), (.l 0)], .push, none, false, 2, (some 0)⟩,
    ⟨.mv (.l 0), (.var 7), none, true, 3, none⟩]) .ret)))))), [.tmp (.v 7)]⟩
noncomputable def G3 (E : Env) : ZFn := ⟨66, [7, 0, 5, 6, 1, 8, 10, 4], fun cy Y fuel =>
  (zSeq (zReg fun k => (zDst (.var 7) (vMv (.k (.bool false)))) k)
  (zSeq (zSeq (zReg fun k => (zStep E (cy Y) ⟨.call 4 [], .push, none, false, 0, (some 0)⟩) ((zDst .push (vNot (.l 0))) k))
  (zCond (.l 0) (zSeq (zReg fun k => (zDst (.var 7) (vMv (.k (.bool false)))) k)
  zRet) zSkip))
  (zSeq (zReg fun k => (zCall (cy Y) 5 [(.k (.int .i64 1)), (.k (.sl 0 [] true))] .push) ((zStep E (cy Y) ⟨.buildSlice 27 1 [(0, (.k (.str [97])))], .push, none, false, 1, (some 1)⟩) ((zStep E (cy Y) ⟨.build 32 [(2, (.l 0))], .push, none, false, 2, none⟩) ((zStep E (cy Y) ⟨.alloc 25, (.var 2), none, false, 3, (some 2)⟩) ((zStep E (cy Y) ⟨.alloc 32, (.var 3), none, false, 4, (some 3)⟩) ((zStep E (cy Y) ⟨.store 25 (.v 2) (.l 2), .none, none, false, 5, none⟩) ((zStep E (cy Y) ⟨.store 32 (.v 3) (.l 0), .none, none, false, 6, none⟩) k)))))))
  (zSeq (zSeq (zReg fun k => (zDst (.var 0) (vMv (.k (.int .i64 0)))) k)
  (zBlock 0 (zLoop fuel (zSeq (zSeq (zReg fun k => (zDst .push (vInt E (fGen .rem) .rem 5 false true (.v 1) (.k (.int .u8 10)))) ((zDst .push (vConv .i64 (.l 0))) ((zDst .push (vInt E fLss .lss 3 false false (.v 0) (.l 0))) k)))
  (zCond (.l 0) zSkip (zExit 0)))
  (zSeq (zBlock 1 (zSeq (zDreg 4 fun n0 k => (zCallD (cy Y) [0, 0, 3, 7, 0, 0, 48, 112, 15, 511] 0 5 [(.k (.int .i64 3)), (.k (.sl 0 [] true))] .push) ((zDstWD [0, 0, 3, 7, 0, 0, 48, 112, 15, 511] 1 .push (wLoad 2 true (.v 2))) ((zStepD E (cy Y) [0, 0, 3, 7, 0, 0, 48, 112, 15, 511] n0 ⟨.buildSlice 23 2 [(0, (.l 1)), (1, (.l 0))], .push, none, false, 2, (some 1)⟩) ((zCallD (cy Y) [0, 0, 3, 7, 0, 0, 48, 112, 15, 511] 3 5 [(.k (.int .i64 5)), (.l 0)] .push) ((zStepD E (cy Y) [0, 0, 3, 7, 0, 0, 48, 112, 15, 511] n0 ⟨.build 32 [], .push, none, false, 4, none⟩) ((zDstWD [0, 0, 3, 7, 0, 0, 48, 112, 15, 511] 5 .push (wLoad 5 true (.v 3))) ((zStepD E (cy Y) [0, 0, 3, 7, 0, 0, 48, 112, 15, 511] n0 ⟨.buildSlice 30 2 [(0, (.l 1)), (1, (.l 0))], .push, none, false, 6, (some 3)⟩) ((zStepD E (cy Y) [0, 0, 3, 7, 0, 0, 48, 112, 15, 511] n0 ⟨.build 32 [(4, (.l 0))], .push, none, false, 7, none⟩) ((zStepD E (cy Y) [0, 0, 3, 7, 0, 0, 48, 112, 15, 511] n0 ⟨.store 25 (.v 2) (.l 4), .none, none, false, 8, none⟩) ((zStepD E (cy Y) [0, 0, 3, 7, 0, 0, 48, 112, 15, 511] n0 ⟨.store 32 (.v 3) (.l 0), .none, none, false, 9, none⟩) k))))))))))
  (zSeq (zReg fun k => k)
  (zCond (.v 4) (zSeq (zReg fun k => (zDst (.var 5) (vMv (.k (.int .i64 0)))) k)
  (zBlock 2 (zLoop fuel (zSeq (zSeq (zReg fun k => (zDst .push (vInt E fLss .lss 3 false true (.v 5) (.k (.int .i64 45)))) k)
  (zCond (.l 0) zSkip (zExit 2)))
  (zSeq (zBlock 3 (zDreg 3 fun n0 k => (fun k sp => zDst .push (vFieldAddr 4 (.v 3)) (k sp)) ((zDstWD [0, 1, 0, 4, 12, 28, 60, 0, 128, 384, 896, 0, 2048, 6144, 14336, 32640, 65408, 130944, 262140, 524287, 1048575, 2097151] 1 .push (wLoad 1 false (.l 0))) ((fun k sp => zDst .push (vFieldAddr 4 (.v 3)) (k sp)) ((zDstWD [0, 1, 0, 4, 12, 28, 60, 0, 128, 384, 896, 0, 2048, 6144, 14336, 32640, 65408, 130944, 262140, 524287, 1048575, 2097151] 3 .push (wLoad 1 false (.l 0))) ((fun k sp => zDst .push (vIndexAddr 5 (.l 0) (.k (.int .i64 0))) (k sp)) ((fun k sp => zDst .push (vFieldAddr 2 (.l 0)) (k sp)) ((zDstWD [0, 1, 0, 4, 12, 28, 60, 0, 128, 384, 896, 0, 2048, 6144, 14336, 32640, 65408, 130944, 262140, 524287, 1048575, 2097151] 6 .push (wLoad 1 false (.l 0))) ((fun k sp => zDst .push (vInt E (fGen .quo) .quo 3 false true (.v 5) (.k (.int .i64 26))) (k sp)) ((fun k sp => zDst .push (vInt E fAdd .add 3 true false (.k (.int .i64 97)) (.l 0)) (k sp)) ((fun k sp => zDst .push (vConv .u8 (.l 0)) (k sp)) ((fun k sp => zDst .push (vInt E (fGen .rem) .rem 3 false true (.v 5) (.k (.int .i64 26))) (k sp)) ((fun k sp => zDst .push (vInt E fAdd .add 3 true false (.k (.int .i64 97)) (.l 0)) (k sp)) ((fun k sp => zDst .push (vConv .u8 (.l 0)) (k sp)) ((zStepD E (cy Y) [0, 1, 0, 4, 12, 28, 60, 0, 128, 384, 896, 0, 2048, 6144, 14336, 32640, 65408, 130944, 262140, 524287, 1048575, 2097151] n0 ⟨.buildSlice 33 2 [(0, (.l 3)), (1, (.l 0))], .push, none, false, 15, (some 0)⟩) ((zStepD E (cy Y) [0, 1, 0, 4, 12, 28, 60, 0, 128, 384, 896, 0, 2048, 6144, 14336, 32640, 65408, 130944, 262140, 524287, 1048575, 2097151] n0 ⟨.conv 33 9 (.l 0), .push, none, false, 16, none⟩) ((zStepD E (cy Y) [0, 1, 0, 4, 12, 28, 60, 0, 128, 384, 896, 0, 2048, 6144, 14336, 32640, 65408, 130944, 262140, 524287, 1048575, 2097151] n0 ⟨.buildSlice 27 1 [(0, (.l 0))], .push, none, false, 17, (some 1)⟩) ((zStepD E (cy Y) [0, 1, 0, 4, 12, 28, 60, 0, 128, 384, 896, 0, 2048, 6144, 14336, 32640, 65408, 130944, 262140, 524287, 1048575, 2097151] n0 ⟨.append 27 27 (.l 9) (.l 0), .push, none, false, 18, (some 2)⟩) ((fun k sp => zDst .push (vIndexAddr 5 (.l 15) (.k (.int .i64 0))) (k sp)) ((fun k sp => zDst .push (vFieldAddr 2 (.l 0)) (k sp)) ((zStepD E (cy Y) [0, 1, 0, 4, 12, 28, 60, 0, 128, 384, 896, 0, 2048, 6144, 14336, 32640, 65408, 130944, 262140, 524287, 1048575, 2097151] n0 ⟨.store 27 (.l 0) (.l 2), .none, none, false, 21, none⟩) k)))))))))))))))))))))
  (zReg fun k => (zDst .push (vMv (.v 5))) ((zDst .push (vInt E fAdd .add 3 false true (.l 0) (.k (.int .i64 1)))) ((zDst (.var 5) (vMv (.l 0))) k)))))))) zSkip))))
  (zReg fun k => (zDst .push (vMv (.v 0))) ((zDst .push (vInt E fAdd .add 3 false true (.l 0) (.k (.int .i64 1)))) ((zDst (.var 0) (vMv (.l 0))) k))))))))
  (zSeq (zReg fun k => (zDstW .push (wLoad 2 true (.v 2))) ((zDstW .push (wLoad 5 true (.v 3))) ((zCall (cy Y) 6 [(.l 1), (.l 0)] .push) ((zDst .push (vExtract 0 (.l 0))) ((zDst .push (vExtract 1 (.l 1))) ((zStep E (cy Y) ⟨.alloc 32, .push, none, false, 6, (some 1)⟩) ((zStep E (cy Y) ⟨.store 32 (.l 0) (.l 2), .none, none, false, 7, none⟩) ((zDst (.var 6) (vMv (.l 1))) k))))))))
  (zSeq (zReg fun k => (zStep E (cy Y) ⟨.mkIface 39 (.k (.int .i64 14)), .push, none, false, 1, none⟩) ((zStep E (cy Y) ⟨.call 7 [(.v 6), (.l 0)], .push, none, false, 2, (some 0)⟩) ((zDst (.var 7) (vMv (.l 0))) k)))
  zRet)))))), [.tmp (.v 7)]⟩
theorem G3_ok (fn : Nat → Option Func) (pu : Nat → Bool) (pr : Nat → List AV → Option (Heap → Option (Eff × Acc))) : ZOk ⟨Tryz.tyT, fn, pu, pr⟩ npT F3 (G3 ⟨Tryz.tyT, fn, pu, pr⟩) := ⟨rfl, rfl, rfl, fun cy Y k => by kernel_rfl⟩
noncomputable def F4 : FFn := ⟨72, [1, 3, 2, 5, 7, 6, 9, 0], (.seq (.reg [⟨.mv (.k (.bool false)), (.var 7), none, true, 0, none⟩]) (.seq (.reg [⟨.build 25 [(0, (.k (.int .i64 3)))], .push, none, false, 0, none⟩,
    ⟨.alloc 25, (.var 0), none, false, 1, (some 0)⟩,
    ⟨.store 25 (.v 0) (.l 0), .none, none, false, 2, none⟩]) (.seq (.reg [⟨.load 25 (.v 0), .push, none, true, 0, none⟩,
    ⟨.buildSlice 27 3 [(0, (.k (.str [98]))), (1, (.k (.str [97]))), (2, (.k (.str [98])))], .push, none, false, 1, (some 0)⟩,
    ⟨.build 32 [(2, (.l 0))], .push, none, false, 2, none⟩,
    ⟨.call 6 [(.l 2), (.l 0)], .push, none, false, 3, (some 1)⟩,
    ⟨.extract (.l 0) 0, .push, none, true, 5, none⟩,
    ⟨.extract (.l 1) 1, .push, none, true, 6, none⟩,
    ⟨.alloc 32, (.var 2), none, false, 7, (some 2)⟩,
    ⟨.store 32 (.v 2) (.l 1), .none, none, false, 8, none⟩,
    ⟨.mv (.l 0), (.var 1), none, true, 9, none⟩]) (.seq (.reg [⟨.load 25 (.v 0), .push, none, true, 0, none⟩,
    ⟨.build 32 [(0, (.k (.int .u64 1)))], .push, none, false, 1, none⟩,
    ⟨.call 6 [(.l 1), (.l 0)], .push, none, false, 2, (some 0)⟩,
    ⟨.extract (.l 0) 0, .push, none, true, 4, none⟩,
    ⟨.extract (.l 1) 1, .push, none, true, 5, none⟩,
    ⟨.alloc 32, .push, none, false, 6, (some 1)⟩,
    ⟨.store 32 (.l 0) (.l 2), .none, none, false, 7, none⟩,
    ⟨.mv (.l 1), (.var 3), none, true, 8, none⟩]) (.seq (.reg [⟨.build 45 [(0, (.k (.int .i64 2))), (1, (.k (.int .u64 1)))], .push, none, false, 0, none⟩,
    ⟨.build 45 [(0, (.k (.int .i64 1)))], .push, none, false, 1, none⟩,
    ⟨.build 45 [(0, (.k (.int .i64 2))), (1, (.k (.int .u64 4)))], .push, none, false, 2, none⟩,
    ⟨.buildSlice 41 3 [(0, (.l 2)), (1, (.l 1)), (2, (.l 0))], .push, none, false, 3, (some 0)⟩,
    ⟨.call 8 [(.l 0)], .push, none, false, 4, (some 1)⟩,
    ⟨.extract (.l 0) 0, .push, none, true, 6, none⟩,
    ⟨.extract (.l 1) 1, .push, none, true, 7, none⟩,
    ⟨.mv (.l 1), (.var 5), none, true, 8, none⟩,
    ⟨.mv (.l 0), (.var 4), none, true, 9, none⟩]) (.seq (.reg [⟨.build 45 [(0, (.k (.int .i64 (-1)))), (1, (.k (.int .u64 1)))], .push, none, false, 0, none⟩,
    ⟨.buildSlice 41 1 [(0, (.l 0))], .push, none, false, 1, (some 0)⟩,
    ⟨.call 8 [(.l 0)], .push, none, false, 2, (some 1)⟩,
    ⟨.extract (.l 0) 0, .push, none, true, 4, none⟩,
    ⟨.extract (.l 1) 1, .push, none, true, 5, none⟩,
    ⟨.mv (.l 1), .push, none, true, 6, none⟩,
    ⟨.mv (.l 1), (.var 6), none, true, 7, none⟩]) (.seq (.reg [⟨.bin .eql 35 false true (.v 1) (.k .nilIface), .push, none, false, 1, none⟩,
    ⟨.fieldAddr 32 (.v 2) 2, .push, (some ((.l 0), true)), true, 3, none⟩,
    ⟨.load 27 (.l 0), .push, (some ((.l 1), true)), true, 4, none⟩,
    ⟨.buildSlice 27 2 [(0, (.k (.str [97]))), (1, (.k (.str [98])))], .push, (some ((.l 2), true)), false, 5, (some 0)⟩,
    ⟨.call 9 [(.l 1), (.l 0)], .push, (some ((.l 3), true)), false, 6, (some 1)⟩,
    ⟨.pick (.l 4) (.l 0) (.k (.bool false)), .push, none, true, 7, none⟩,
    ⟨.mv (.v 3), .push, (some ((.l 0), true)), true, 9, none⟩,
    ⟨.mkIface 39 (.k (.int .i64 14)), .push, (some ((.l 1), true)), false, 10, none⟩,
    ⟨.call 7 [(.l 1), (.l 0)], .push, (some ((.l 2), true)), false, 11, (some 2)⟩,
    ⟨.pick (.l 3) (.l 0) (.k (.bool false)), .push, none, true, 12, none⟩,
    ⟨.mv (.v 4), .push, (some ((.l 0), true)), true, 14, none⟩,
    ⟨.bin .eql 35 false true (.l 0) (.k .nilIface), .push, (some ((.l 1), true)), false, 15, none⟩,
    ⟨.pick (.l 2) (.l 0) (.k (.bool false)), .push, none, true, 16, none⟩,
    ⟨.mv (.v 5), .push, (some ((.l 0), true)), true, 18, none⟩,
    ⟨.len 41 (.l 0), .push, (some ((.l 1), true)), false, 19, none⟩,
    ⟨.bin .eql 3 false true (.l 0) (.k (.int .i64 1)), .push, (some ((.l 2), true)), false, 20, none⟩,
    ⟨.pick (.l 3) (.l 0) (.k (.bool false)), .push, none, true, 21, none⟩,
    ⟨.mv (.v 5), .push, (some ((.l 0), true)), true, 23, none⟩,
    ⟨.indexAddr 41 (.l 0) (.k (.int .i64 0)), .push, (some ((.l 1), true)), true, 24, none⟩,
    ⟨.load 45 (.l 0), .push, (some ((.l 2), true)), true, 25, none⟩,
    ⟨.build 45 [(0, (.k (.int .i64 2))), (1, (.k (.int .u64 4)))], .push, (some ((.l 3), true)), false, 26, none⟩,
    ⟨.bin .eql 45 false false (.l 1) (.l 0), .push, (some ((.l 4), true)), false, 27, none⟩,
    ⟨.pick (.l 5) (.l 0) (.k (.bool false)), .push, none, true, 28, none⟩,
    ⟨.mv (.v 6), .push, (some ((.l 0), true)), true, 30, none⟩,
    ⟨.mkIface 39 (.k (.int .i64 14)), .push, (some ((.l 1), true)), false, 31, none⟩,
    ⟨.call 7 [(.l 1), (.l 0)], .push, (some ((.l 2), true)), false, 32, (some 3)⟩,
    ⟨.pick (.l 3) (.l 0) (.k (.bool false)), .push, none, true, 33, none⟩,
    ⟨.mv (.l 0), (.var 7), none, true, 34, none⟩]) .ret))))))), [.tmp (.v 7)]⟩
noncomputable def G4 (E : Env) : ZFn := ⟨72, [1, 3, 2, 5, 7, 6, 9, 0], fun cy Y fuel =>
  (zSeq (zReg fun k => (zDst (.var 7) (vMv (.k (.bool false)))) k)
  (zSeq (zReg fun k => (zStep E (cy Y) ⟨.build 25 [(0, (.k (.int .i64 3)))], .push, none, false, 0, none⟩) ((zStep E (cy Y) ⟨.alloc 25, (.var 0), none, false, 1, (some 0)⟩) ((zStep E (cy Y) ⟨.store 25 (.v 0) (.l 0), .none, none, false, 2, none⟩) k)))
  (zSeq (zReg fun k => (zDstW .push (wLoad 2 true (.v 0))) ((zStep E (cy Y) ⟨.buildSlice 27 3 [(0, (.k (.str [98]))), (1, (.k (.str [97]))), (2, (.k (.str [98])))], .push, none, false, 1, (some 0)⟩) ((zStep E (cy Y) ⟨.build 32 [(2, (.l 0))], .push, none, false, 2, none⟩) ((zCall (cy Y) 6 [(.l 2), (.l 0)] .push) ((zDst .push (vExtract 0 (.l 0))) ((zDst .push (vExtract 1 (.l 1))) ((zStep E (cy Y) ⟨.alloc 32, (.var 2), none, false, 7, (some 2)⟩) ((zStep E (cy Y) ⟨.store 32 (.v 2) (.l 1), .none, none, false, 8, none⟩) ((zDst (.var 1) (vMv (.l 0))) k)))))))))
  (zSeq (zReg fun k => (zDstW .push (wLoad 2 true (.v 0))) ((zStep E (cy Y) ⟨.build 32 [(0, (.k (.int .u64 1)))], .push, none, false, 1, none⟩) ((zCall (cy Y) 6 [(.l 1), (.l 0)] .push) ((zDst .push (vExtract 0 (.l 0))) ((zDst .push (vExtract 1 (.l 1))) ((zStep E (cy Y) ⟨.alloc 32, .push, none, false, 6, (some 1)⟩) ((zStep E (cy Y) ⟨.store 32 (.l 0) (.l 2), .none, none, false, 7, none⟩) ((zDst (.var 3) (vMv (.l 1))) k))))))))
  (zSeq (zReg fun k => (zStep E (cy Y) ⟨.build 45 [(0, (.k (.int .i64 2))), (1, (.k (.int .u64 1)))], .push, none, false, 0, none⟩) ((zStep E (cy Y) ⟨.build 45 [(0, (.k (.int .i64 1)))], .push, none, false, 1, none⟩) ((zStep E (cy Y) ⟨.build 45 [(0, (.k (.int .i64 2))), (1, (.k (.int .u64 4)))], .push, none, false, 2, none⟩) ((zStep E (cy Y) ⟨.buildSlice 41 3 [(0, (.l 2)), (1, (.l 1)), (2, (.l 0))], .push, none, false, 3, (some 0)⟩) ((zCall (cy Y) 8 [(.l 0)] .push) ((zDst .push (vExtract 0 (.l 0))) ((zDst .push (vExtract 1 (.l 1))) ((zDst (.var 5) (vMv (.l 1))) ((zDst (.var 4) (vMv (.l 0))) k)))))))))
  (zSeq (zReg fun k => (zStep E (cy Y) ⟨.build 45 [(0, (.k (.int .i64 (-1)))), (1, (.k (.int .u64 1)))], .push, none, false, 0, none⟩) ((zStep E (cy Y) ⟨.buildSlice 41 1 [(0, (.l 0))], .push, none, false, 1, (some 0)⟩) ((zCall (cy Y) 8 [(.l 0)] .push) ((zDst .push (vExtract 0 (.l 0))) ((zDst .push (vExtract 1 (.l 1))) ((zDst .push (vMv (.l 1))) ((zDst (.var 6) (vMv (.l 1))) k)))))))
  (zSeq (zReg fun k => (zDst .push (vInt E fEql .eql 35 false true (.v 1) (.k .nilIface))) ((zG (.l 0) true .push (zDst .push (vFieldAddr 2 (.v 2)))) ((zG (.l 1) true .push (zDstW .push (wLoad 1 false (.l 0)))) ((zG (.l 2) true .push (zStep E (cy Y) ⟨.buildSlice 27 2 [(0, (.k (.str [97]))), (1, (.k (.str [98])))], .push, none, false, 5, (some 0)⟩)) ((zG (.l 3) true .push (zCall (cy Y) 9 [(.l 1), (.l 0)] .push)) ((zDst .push (vPick (.l 4) (.l 0) (.k (.bool false)))) ((zG (.l 0) true .push (zDst .push (vMv (.v 3)))) ((zG (.l 1) true .push (zStep E (cy Y) ⟨.mkIface 39 (.k (.int .i64 14)), .push, none, false, 10, none⟩)) ((zG (.l 2) true .push (zStep E (cy Y) ⟨.call 7 [(.l 1), (.l 0)], .push, none, false, 11, (some 2)⟩)) ((zDst .push (vPick (.l 3) (.l 0) (.k (.bool false)))) ((zG (.l 0) true .push (zDst .push (vMv (.v 4)))) ((zG (.l 1) true .push (zDst .push (vInt E fEql .eql 35 false true (.l 0) (.k .nilIface)))) ((zDst .push (vPick (.l 2) (.l 0) (.k (.bool false)))) ((zG (.l 0) true .push (zDst .push (vMv (.v 5)))) ((zG (.l 1) true .push (zDst .push (vLenL (.l 0)))) ((zG (.l 2) true .push (zDst .push (vInt E fEql .eql 3 false true (.l 0) (.k (.int .i64 1))))) ((zDst .push (vPick (.l 3) (.l 0) (.k (.bool false)))) ((zG (.l 0) true .push (zDst .push (vMv (.v 5)))) ((zG (.l 1) true .push (zDst .push (vIndexAddr 2 (.l 0) (.k (.int .i64 0))))) ((zG (.l 2) true .push (zDstW .push (wLoad 2 true (.l 0)))) ((zG (.l 3) true .push (zStep E (cy Y) ⟨.build 45 [(0, (.k (.int .i64 2))), (1, (.k (.int .u64 4)))], .push, none, false, 26, none⟩)) ((zG (.l 4) true .push (zDst .push (vInt E fEql .eql 45 false false (.l 1) (.l 0)))) ((zDst .push (vPick (.l 5) (.l 0) (.k (.bool false)))) ((zG (.l 0) true .push (zDst .push (vMv (.v 6)))) ((zG (.l 1) true .push (zStep E (cy Y) ⟨.mkIface 39 (.k (.int .i64 14)), .push, none, false, 31, none⟩)) ((zG (.l 2) true .push (zStep E (cy Y) ⟨.call 7 [(.l 1), (.l 0)], .push, none, false, 32, (some 3)⟩)) ((zDst .push (vPick (.l 3) (.l 0) (.k (.bool false)))) ((zDst (.var 7) (vMv (.l 0))) k))))))))))))))))))))))))))))
  zRet))))))), [.tmp (.v 7)]⟩
theorem G4_ok (fn : Nat → Option Func) (pu : Nat → Bool) (pr : Nat → List AV → Option (Heap → Option (Eff × Acc))) : ZOk ⟨Tryz.tyT, fn, pu, pr⟩ npT F4 (G4 ⟨Tryz.tyT, fn, pu, pr⟩) := ⟨rfl, rfl, rfl, fun cy Y k => by kernel_rfl⟩
noncomputable def F5 : FFn := ⟨8, [0, 1, 4], (.seq (.reg [⟨.alloc 25, (.var 2), none, false, 0, (some 0)⟩]) (.seq (.reg [⟨.build 25 [(0, (.v 0)), (1, (.v 1))], .push, none, false, 2, none⟩,
    ⟨.store 25 (.v 2) (.l 0), .none, none, false, 3, none⟩]) .ret)), [.cell (.v 2) 25]⟩
noncomputable def G5 (E : Env) : ZFn := ⟨8, [0, 1, 4], fun cy Y fuel =>
  (zSeq (zReg fun k => (zStep E (cy Y) ⟨.alloc 25, (.var 2), none, false, 0, (some 0)⟩) k)
  (zSeq (zReg fun k => (zStep E (cy Y) ⟨.build 25 [(0, (.v 0)), (1, (.v 1))], .push, none, false, 2, none⟩) ((zStep E (cy Y) ⟨.store 25 (.v 2) (.l 0), .none, none, false, 3, none⟩) k))
  zRet)), [.cell (.v 2) 25]⟩
theorem G5_ok (fn : Nat → Option Func) (pu : Nat → Bool) (pr : Nat → List AV → Option (Heap → Option (Eff × Acc))) : ZOk ⟨Tryz.tyT, fn, pu, pr⟩ npT F5 (G5 ⟨Tryz.tyT, fn, pu, pr⟩) := ⟨rfl, rfl, rfl, fun cy Y k => by kernel_rfl⟩
noncomputable def F6 : FFn := ⟨22, [0, 1, 2, 3, 4, 5], (.seq (.reg [⟨.box 25 (.v 0), (.var 2), none, false, 0, (some 0)⟩,
    ⟨.box 32 (.v 1), (.var 3), none, false, 1, (some 1)⟩,
    ⟨.alloc 32, (.var 4), none, false, 2, (some 2)⟩,
    ⟨.mv (.k .nilIface), (.var 5), none, true, 3, none⟩]) (.seq (.seq (.reg [⟨.load 25 (.v 2), .push, none, true, 0, none⟩,
    ⟨.call 10 [(.l 0)], .push, none, false, 1, (some 0)⟩,
    ⟨.un .not (.l 0), .push, none, false, 2, none⟩,
    ⟨.load 25 (.v 2), .push, (some ((.l 0), false)), true, 4, none⟩,
    ⟨.load 32 (.v 3), .push, (some ((.l 1), false)), true, 5, none⟩,
    ⟨.call 11 [(.l 1), (.l 0)], .push, (some ((.l 2), false)), false, 6, (some 1)⟩,
    ⟨.un .not (.l 0), .push, (some ((.l 3), false)), false, 7, none⟩,
    ⟨.pick (.l 4) (.k (.bool true)) (.l 0), .push, none, true, 8, none⟩]) (.cond (.l 0) (.seq (.reg [⟨.build 32 [], .push, none, false, 0, none⟩,
    ⟨.mkIface 39 (.k (.int .i64 14)), .push, none, false, 1, none⟩,
    ⟨.store 32 (.v 4) (.l 1), .none, none, false, 2, none⟩,
    ⟨.mv (.l 0), (.var 5), none, true, 3, none⟩]) .ret) .skip)) (.seq (.reg [⟨.load 25 (.v 2), .push, none, true, 0, none⟩,
    ⟨.load 32 (.v 3), .push, none, true, 1, none⟩,
    ⟨.call 12 [(.l 1), (.l 0)], .push, none, false, 2, (some 0)⟩,
    ⟨.extract (.l 0) 0, .push, none, true, 3, none⟩,
    ⟨.extract (.l 1) 1, .push, none, true, 4, none⟩,
    ⟨.store 32 (.v 4) (.l 1), .none, none, false, 5, none⟩,
    ⟨.mv (.l 0), (.var 5), none, true, 6, none⟩]) .ret))), [.cell (.v 4) 32, .tmp (.v 5)]⟩
noncomputable def G6 (E : Env) : ZFn := ⟨22, [0, 1, 2, 3, 4, 5], fun cy Y fuel =>
  (zSeq (zReg fun k => (zStep E (cy Y) ⟨.box 25 (.v 0), (.var 2), none, false, 0, (some 0)⟩) ((zStep E (cy Y) ⟨.box 32 (.v 1), (.var 3), none, false, 1, (some 1)⟩) ((zStep E (cy Y) ⟨.alloc 32, (.var 4), none, false, 2, (some 2)⟩) ((zDst (.var 5) (vMv (.k .nilIface))) k))))
  (zSeq (zSeq (zReg fun k => (zDstW .push (wLoad 2 true (.v 2))) ((zCall (cy Y) 10 [(.l 0)] .push) ((zDst .push (vNot (.l 0))) ((zG (.l 0) false .push (zDstW .push (wLoad 2 true (.v 2)))) ((zG (.l 1) false .push (zDstW .push (wLoad 5 true (.v 3)))) ((zG (.l 2) false .push (zCall (cy Y) 11 [(.l 1), (.l 0)] .push)) ((zG (.l 3) false .push (zDst .push (vNot (.l 0)))) ((zDst .push (vPick (.l 4) (.k (.bool true)) (.l 0))) k))))))))
  (zCond (.l 0) (zSeq (zReg fun k => (zStep E (cy Y) ⟨.build 32 [], .push, none, false, 0, none⟩) ((zStep E (cy Y) ⟨.mkIface 39 (.k (.int .i64 14)), .push, none, false, 1, none⟩) ((zStep E (cy Y) ⟨.store 32 (.v 4) (.l 1), .none, none, false, 2, none⟩) ((zDst (.var 5) (vMv (.l 0))) k))))
  zRet) zSkip))
  (zSeq (zReg fun k => (zDstW .push (wLoad 2 true (.v 2))) ((zDstW .push (wLoad 5 true (.v 3))) ((zCall (cy Y) 12 [(.l 1), (.l 0)] .push) ((zDst .push (vExtract 0 (.l 0))) ((zDst .push (vExtract 1 (.l 1))) ((zStep E (cy Y) ⟨.store 32 (.v 4) (.l 1), .none, none, false, 5, none⟩) ((zDst (.var 5) (vMv (.l 0))) k)))))))
  zRet))), [.cell (.v 4) 32, .tmp (.v 5)]⟩
theorem G6_ok (fn : Nat → Option Func) (pu : Nat → Bool) (pr : Nat → List AV → Option (Heap → Option (Eff × Acc))) : ZOk ⟨Tryz.tyT, fn, pu, pr⟩ npT F6 (G6 ⟨Tryz.tyT, fn, pu, pr⟩) := ⟨rfl, rfl, rfl, fun cy Y k => by kernel_rfl⟩
noncomputable def F8 : FFn := ⟨51, [0, 17, 16, 15, 6, 4, 2, 3], (.seq (.reg [⟨.mv (.k (.sl 0 [] true)), (.var 6), none, true, 0, none⟩,
    ⟨.mv (.k .nilIface), (.var 7), none, true, 1, none⟩]) (.seq (.seq (.reg [⟨.call 15 [(.v 0)], .push, none, false, 1, (some 0)⟩,
    ⟨.un .not (.l 0), .push, none, false, 2, none⟩]) (.cond (.l 0) (.seq (.reg [⟨.mkIface 39 (.k (.int .i64 14)), .push, none, false, 0, none⟩,
    ⟨.mv (.k (.sl 0 [] true)), (.var 6), none, true, 1, none⟩,
    ⟨.mv (.l 0), (.var 7), none, true, 2, none⟩]) .ret) .skip)) (.seq (.reg [⟨.mv (.v 0), .push, none, true, 0, none⟩,
    ⟨.call 16 [(.l 0)], .push, none, false, 1, (some 0)⟩,
    ⟨.mv (.l 0), (.var 0), none, true, 2, none⟩]) (.seq (.reg [⟨.call 17 [(.v 0), (.k (.clo 18 []))], .push, none, false, 1, (some 0)⟩]) (.seq (.reg [⟨.mv (.k (.sl 0 [] true)), (.var 5), none, true, 0, none⟩]) (.seq (.seq (.reg [⟨.mv (.v 0), (.var 3), none, true, 0, none⟩,
    ⟨.len 41 (.v 3), (.var 2), none, false, 1, none⟩,
    ⟨.mv (.k (.int .i64 0)), (.var 1), none, true, 2, none⟩]) (.block 0 (.loop (.seq (.reg [⟨.bin .lss 3 false false (.v 1) (.v 2), .push, none, false, 0, none⟩]) (.seq (.cond (.l 0) .skip (.exit 0)) (.seq (.block 1 (.seq (.reg [⟨.indexAddr 41 (.v 3) (.v 1), .push, none, true, 0, none⟩,
    ⟨.load 45 (.l 0), .push, none, true, 1, none⟩,
    ⟨.alloc 45, (.var 4), none, false, 2, (some 0)⟩,
    ⟨.store 45 (.v 4) (.l 0), .none, none, false, 3, none⟩]) (.seq (.dreg 0 [0, 1, 3, 7, 15, 31, 63, 127, 255, 255, 767, 1791, 4095, 8191, 16383, 255, 33023, 131071, 262143, 524287] [⟨.fieldAddr 45 (.v 4) 1, .push, none, true, 0, none⟩,
    ⟨.load 28 (.l 0), .push, none, true, 1, none⟩,
    ⟨.bin .gtr 28 false true (.l 0) (.k (.int .u64 0)), .push, none, false, 2, none⟩,
    ⟨.mv (.v 5), .push, (some ((.l 0), true)), true, 4, none⟩,
    ⟨.len 41 (.l 0), .push, (some ((.l 1), true)), false, 5, none⟩,
    ⟨.bin .eql 3 false true (.l 0) (.k (.int .i64 0)), .push, (some ((.l 2), true)), false, 6, none⟩,
    ⟨.mv (.l 0), .push, (some ((.l 3), true)), true, 7, none⟩,
    ⟨.mv (.v 5), .push, (some ((.l 0), false)), true, 8, none⟩,
    ⟨.mv (.v 5), .push, (some ((.l 1), false)), true, 9, none⟩,
    ⟨.len 41 (.l 0), .push, (some ((.l 2), false)), false, 10, none⟩,
    ⟨.bin .sub 3 false true (.l 0) (.k (.int .i64 1)), .push, (some ((.l 3), false)), false, 11, none⟩,
    ⟨.indexAddr 41 (.l 3) (.l 0), .push, (some ((.l 4), false)), true, 12, none⟩,
    ⟨.fieldAddr 45 (.l 0) 0, .push, (some ((.l 5), false)), true, 13, none⟩,
    ⟨.load 3 (.l 0), .push, (some ((.l 6), false)), true, 14, none⟩,
    ⟨.fieldAddr 45 (.v 4) 0, .push, (some ((.l 7), false)), true, 15, none⟩,
    ⟨.load 3 (.l 0), .push, (some ((.l 8), false)), true, 16, none⟩,
    ⟨.bin .neq 3 false false (.l 2) (.l 0), .push, (some ((.l 9), false)), false, 17, none⟩,
    ⟨.pick (.l 10) (.k (.bool true)) (.l 0), .push, (some ((.l 14), true)), true, 18, none⟩,
    ⟨.pick (.l 15) (.l 0) (.k (.bool false)), .push, none, true, 19, none⟩]) (.cond (.l 0) (.reg [⟨.mv (.v 5), .push, none, true, 0, none⟩,
    ⟨.load 45 (.v 4), .push, none, true, 1, none⟩,
    ⟨.buildSlice 41 1 [(0, (.l 0))], .push, none, false, 2, (some 0)⟩,
    ⟨.append 41 41 (.l 2) (.l 0), .push, none, false, 3, (some 1)⟩,
    ⟨.mv (.l 0), (.var 5), none, true, 4, none⟩]) .skip)))) (.reg [⟨.bin .add 3 false true (.v 1) (.k (.int .i64 1)), .push, none, false, 0, none⟩,
    ⟨.mv (.l 0), (.var 1), none, true, 1, none⟩]))))))) (.seq (.seq (.reg [⟨.len 41 (.v 5), .push, none, false, 1, none⟩,
    ⟨.bin .gtr 3 false true (.l 0) (.k (.int .i64 40)), .push, none, false, 2, none⟩]) (.cond (.l 0) (.seq (.reg [⟨.mkIface 39 (.k (.int .i64 13)), .push, none, false, 0, none⟩,
    ⟨.mv (.k (.sl 0 [] true)), (.var 6), none, true, 1, none⟩,
    ⟨.mv (.l 0), (.var 7), none, true, 2, none⟩]) .ret) .skip)) (.seq (.reg [⟨.mv (.v 5), (.var 6), none, true, 1, none⟩,
    ⟨.mv (.k .nilIface), (.var 7), none, true, 2, none⟩]) .ret)))))))), [.tmp (.v 6), .tmp (.v 7)]⟩
noncomputable def G8 (E : Env) : ZFn := ⟨51, [0, 17, 16, 15, 6, 4, 2, 3], fun cy Y fuel =>
  (zSeq (zReg fun k => (zDst (.var 6) (vMv (.k (.sl 0 [] true)))) ((zDst (.var 7) (vMv (.k .nilIface))) k))
  (zSeq (zSeq (zReg fun k => (zCall (cy Y) 15 [(.v 0)] .push) ((zDst .push (vNot (.l 0))) k))
  (zCond (.l 0) (zSeq (zReg fun k => (zStep E (cy Y) ⟨.mkIface 39 (.k (.int .i64 14)), .push, none, false, 0, none⟩) ((zDst (.var 6) (vMv (.k (.sl 0 [] true)))) ((zDst (.var 7) (vMv (.l 0))) k)))
  zRet) zSkip))
  (zSeq (zReg fun k => (zDst .push (vMv (.v 0))) ((zStep E (cy Y) ⟨.call 16 [(.l 0)], .push, none, false, 1, (some 0)⟩) ((zDst (.var 0) (vMv (.l 0))) k)))
  (zSeq (zReg fun k => (zCall (cy Y) 17 [(.v 0), (.k (.clo 18 []))] .push) k)
  (zSeq (zReg fun k => (zDst (.var 5) (vMv (.k (.sl 0 [] true)))) k)
  (zSeq (zSeq (zReg fun k => (zDst (.var 3) (vMv (.v 0))) ((zDst (.var 2) (vLenL (.v 3))) ((zDst (.var 1) (vMv (.k (.int .i64 0)))) k)))
  (zBlock 0 (zLoop fuel (zSeq (zReg fun k => (zDst .push (vInt E fLss .lss 3 false false (.v 1) (.v 2))) k)
  (zSeq (zCond (.l 0) zSkip (zExit 0))
  (zSeq (zBlock 1 (zSeq (zReg fun k => (zDst .push (vIndexAddr 2 (.v 3) (.v 1))) ((zDstW .push (wLoad 2 true (.l 0))) ((zStep E (cy Y) ⟨.alloc 45, (.var 4), none, false, 2, (some 0)⟩) ((zStep E (cy Y) ⟨.store 45 (.v 4) (.l 0), .none, none, false, 3, none⟩) k))))
  (zSeq (zDreg 0 fun n0 k => (fun k sp => zDst .push (vFieldAddr 1 (.v 4)) (k sp)) ((zDstWD [0, 1, 3, 7, 15, 31, 63, 127, 255, 255, 767, 1791, 4095, 8191, 16383, 255, 33023, 131071, 262143, 524287] 1 .push (wLoad 1 false (.l 0))) ((fun k sp => zDst .push (vInt E fGtr .gtr 28 false true (.l 0) (.k (.int .u64 0))) (k sp)) ((zGD (.l 0) true .push (fun k sp => zDst .push (vMv (.v 5)) (k sp))) ((zGD (.l 1) true .push (fun k sp => zDst .push (vLenL (.l 0)) (k sp))) ((zGD (.l 2) true .push (fun k sp => zDst .push (vInt E fEql .eql 3 false true (.l 0) (.k (.int .i64 0))) (k sp))) ((zGD (.l 3) true .push (fun k sp => zDst .push (vMv (.l 0)) (k sp))) ((zGD (.l 0) false .push (fun k sp => zDst .push (vMv (.v 5)) (k sp))) ((zGD (.l 1) false .push (fun k sp => zDst .push (vMv (.v 5)) (k sp))) ((zGD (.l 2) false .push (fun k sp => zDst .push (vLenL (.l 0)) (k sp))) ((zGD (.l 3) false .push (fun k sp => zDst .push (vInt E fSub .sub 3 false true (.l 0) (.k (.int .i64 1))) (k sp))) ((zGD (.l 4) false .push (fun k sp => zDst .push (vIndexAddr 2 (.l 3) (.l 0)) (k sp))) ((zGD (.l 5) false .push (fun k sp => zDst .push (vFieldAddr 0 (.l 0)) (k sp))) ((zGD (.l 6) false .push (zDstWD [0, 1, 3, 7, 15, 31, 63, 127, 255, 255, 767, 1791, 4095, 8191, 16383, 255, 33023, 131071, 262143, 524287] 14 .push (wLoad 1 false (.l 0)))) ((zGD (.l 7) false .push (fun k sp => zDst .push (vFieldAddr 0 (.v 4)) (k sp))) ((zGD (.l 8) false .push (zDstWD [0, 1, 3, 7, 15, 31, 63, 127, 255, 255, 767, 1791, 4095, 8191, 16383, 255, 33023, 131071, 262143, 524287] 16 .push (wLoad 1 false (.l 0)))) ((zGD (.l 9) false .push (fun k sp => zDst .push (vInt E fNeq .neq 3 false false (.l 2) (.l 0)) (k sp))) ((zGD (.l 14) true .push (fun k sp => zDst .push (vPick (.l 10) (.k (.bool true)) (.l 0)) (k sp))) ((fun k sp => zDst .push (vPick (.l 15) (.l 0) (.k (.bool false))) (k sp)) k)))))))))))))))))))
  (zCond (.l 0) (zReg fun k => (zDst .push (vMv (.v 5))) ((zDstW .push (wLoad 2 true (.v 4))) ((zStep E (cy Y) ⟨.buildSlice 41 1 [(0, (.l 0))], .push, none, false, 2, (some 0)⟩) ((zStep E (cy Y) ⟨.append 41 41 (.l 2) (.l 0), .push, none, false, 3, (some 1)⟩) ((zDst (.var 5) (vMv (.l 0))) k))))) zSkip))))
  (zReg fun k => (zDst .push (vInt E fAdd .add 3 false true (.v 1) (.k (.int .i64 1)))) ((zDst (.var 1) (vMv (.l 0))) k))))))))
  (zSeq (zSeq (zReg fun k => (zDst .push (vLenL (.v 5))) ((zDst .push (vInt E fGtr .gtr 3 false true (.l 0) (.k (.int .i64 40)))) k))
  (zCond (.l 0) (zSeq (zReg fun k => (zStep E (cy Y) ⟨.mkIface 39 (.k (.int .i64 13)), .push, none, false, 0, none⟩) ((zDst (.var 6) (vMv (.k (.sl 0 [] true)))) ((zDst (.var 7) (vMv (.l 0))) k)))
  zRet) zSkip))
  (zSeq (zReg fun k => (zDst (.var 6) (vMv (.v 5))) ((zDst (.var 7) (vMv (.k .nilIface))) k))
  zRet)))))))), [.tmp (.v 6), .tmp (.v 7)]⟩
theorem G8_ok (fn : Nat → Option Func) (pu : Nat → Bool) (pr : Nat → List AV → Option (Heap → Option (Eff × Acc))) : ZOk ⟨Tryz.tyT, fn, pu, pr⟩ npT F8 (G8 ⟨Tryz.tyT, fn, pu, pr⟩) := ⟨rfl, rfl, rfl, fun cy Y k => by kernel_rfl⟩
noncomputable def F9 : FFn := ⟨26, [0, 1, 5, 4], (.seq (.reg [⟨.mv (.k (.bool false)), (.var 3), none, true, 0, none⟩]) (.seq (.seq (.reg [⟨.len 27 (.v 0), .push, none, false, 1, none⟩,
    ⟨.len 27 (.v 1), .push, none, false, 3, none⟩,
    ⟨.bin .neq 3 false false (.l 1) (.l 0), .push, none, false, 4, none⟩]) (.cond (.l 0) (.seq (.reg [⟨.mv (.k (.bool false)), (.var 3), none, true, 0, none⟩]) .ret) .skip)) (.seq (.seq (.reg [⟨.mv (.k (.int .i64 0)), (.var 2), none, true, 0, none⟩]) (.block 0 (.loop (.seq (.seq (.reg [⟨.len 27 (.v 0), .push, none, false, 2, none⟩,
    ⟨.bin .lss 3 false false (.v 2) (.l 0), .push, none, false, 3, none⟩]) (.cond (.l 0) .skip (.exit 0))) (.seq (.block 1 (.seq (.dreg 0 [0, 0, 3, 7, 0, 0, 48, 112, 255] [⟨.indexAddr 27 (.v 0) (.v 2), .push, none, true, 2, none⟩,
    ⟨.load 9 (.l 0), .push, none, true, 3, none⟩,
    ⟨.indexAddr 27 (.v 1) (.v 2), .push, none, true, 6, none⟩,
    ⟨.load 9 (.l 0), .push, none, true, 7, none⟩,
    ⟨.bin .neq 9 false false (.l 2) (.l 0), .push, none, false, 8, none⟩]) (.cond (.l 0) (.seq (.reg [⟨.mv (.k (.bool false)), (.var 3), none, true, 0, none⟩]) .ret) .skip))) (.reg [⟨.mv (.v 2), .push, none, true, 0, none⟩,
    ⟨.bin .add 3 false true (.l 0) (.k (.int .i64 1)), .push, none, false, 1, none⟩,
    ⟨.mv (.l 0), (.var 2), none, true, 2, none⟩])))))) (.seq (.reg [⟨.mv (.k (.bool true)), (.var 3), none, true, 0, none⟩]) .ret)))), [.tmp (.v 3)]⟩
noncomputable def G9 (E : Env) : ZFn := ⟨26, [0, 1, 5, 4], fun cy Y fuel =>
  (zSeq (zReg fun k => (zDst (.var 3) (vMv (.k (.bool false)))) k)
  (zSeq (zSeq (zReg fun k => (zDst .push (vLenL (.v 0))) ((zDst .push (vLenL (.v 1))) ((zDst .push (vInt E fNeq .neq 3 false false (.l 1) (.l 0))) k)))
  (zCond (.l 0) (zSeq (zReg fun k => (zDst (.var 3) (vMv (.k (.bool false)))) k)
  zRet) zSkip))
  (zSeq (zSeq (zReg fun k => (zDst (.var 2) (vMv (.k (.int .i64 0)))) k)
  (zBlock 0 (zLoop fuel (zSeq (zSeq (zReg fun k => (zDst .push (vLenL (.v 0))) ((zDst .push (vInt E fLss .lss 3 false false (.v 2) (.l 0))) k))
  (zCond (.l 0) zSkip (zExit 0)))
  (zSeq (zBlock 1 (zSeq (zDreg 0 fun n0 k => (fun k sp => zDst .push (vIndexAddr 1 (.v 0) (.v 2)) (k sp)) ((zDstWD [0, 0, 3, 7, 0, 0, 48, 112, 255] 3 .push (wLoad 1 false (.l 0))) ((fun k sp => zDst .push (vIndexAddr 1 (.v 1) (.v 2)) (k sp)) ((zDstWD [0, 0, 3, 7, 0, 0, 48, 112, 255] 7 .push (wLoad 1 false (.l 0))) ((fun k sp => zDst .push (vInt E fNeq .neq 9 false false (.l 2) (.l 0)) (k sp)) k)))))
  (zCond (.l 0) (zSeq (zReg fun k => (zDst (.var 3) (vMv (.k (.bool false)))) k)
  zRet) zSkip)))
  (zReg fun k => (zDst .push (vMv (.v 2))) ((zDst .push (vInt E fAdd .add 3 false true (.l 0) (.k (.int .i64 1)))) ((zDst (.var 2) (vMv (.l 0))) k))))))))
  (zSeq (zReg fun k => (zDst (.var 3) (vMv (.k (.bool true)))) k)
  zRet)))), [.tmp (.v 3)]⟩
theorem G9_ok (fn : Nat → Option Func) (pu : Nat → Bool) (pr : Nat → List AV → Option (Heap → Option (Eff × Acc))) : ZOk ⟨Tryz.tyT, fn, pu, pr⟩ npT F9 (G9 ⟨Tryz.tyT, fn, pu, pr⟩) := ⟨rfl, rfl, rfl, fun cy Y k => by kernel_rfl⟩
noncomputable def F10 : FFn := ⟨5, [0, 1, 2], (.seq (.reg [⟨.box 25 (.v 0), (.var 1), none, false, 0, (some 0)⟩,
    ⟨.mv (.k (.bool false)), (.var 2), none, true, 1, none⟩]) (.seq (.reg [⟨.load 25 (.v 1), .push, none, true, 0, none⟩,
    ⟨.call 22 [(.l 0), (.k (.int .i64 16))], .push, none, false, 1, (some 0)⟩,
    ⟨.mv (.l 0), (.var 2), none, true, 2, none⟩]) .ret)), [.tmp (.v 2)]⟩
noncomputable def G10 (E : Env) : ZFn := ⟨5, [0, 1, 2], fun cy Y fuel =>
  (zSeq (zReg fun k => (zStep E (cy Y) ⟨.box 25 (.v 0), (.var 1), none, false, 0, (some 0)⟩) ((zDst (.var 2) (vMv (.k (.bool false)))) k))
  (zSeq (zReg fun k => (zDstW .push (wLoad 2 true (.v 1))) ((zCall (cy Y) 22 [(.l 0), (.k (.int .i64 16))] .push) ((zDst (.var 2) (vMv (.l 0))) k)))
  zRet)), [.tmp (.v 2)]⟩
theorem G10_ok (fn : Nat → Option Func) (pu : Nat → Bool) (pr : Nat → List AV → Option (Heap → Option (Eff × Acc))) : ZOk ⟨Tryz.tyT, fn, pu, pr⟩ npT F10 (G10 ⟨Tryz.tyT, fn, pu, pr⟩) := ⟨rfl, rfl, rfl, fun cy Y k => by kernel_rfl⟩
noncomputable def F11 : FFn := ⟨46, [0, 1, 3, 5, 2, 27, 26, 25, 6, 7, 4], (.seq (.reg [⟨.box 25 (.v 0), (.var 4), none, false, 0, (some 0)⟩,
    ⟨.box 32 (.v 1), (.var 2), none, false, 1, (some 1)⟩,
    ⟨.mv (.k (.bool false)), (.var 10), none, true, 2, none⟩]) (.seq (.reg [⟨.fieldAddr 32 (.v 2) 2, .push, none, true, 0, none⟩,
    ⟨.load 27 (.l 0), .push, none, true, 1, none⟩,
    ⟨.call 23 [(.l 0), (.k (.clo 24 []))], .push, none, false, 2, (some 0)⟩,
    ⟨.mv (.l 0), (.var 3), none, true, 3, none⟩]) (.seq (.seq (.reg [⟨.fieldAddr 25 (.v 4) 0, .push, (some ((.v 3), false)), true, 2, none⟩,
    ⟨.load 3 (.l 0), .push, (some ((.v 3), false)), true, 3, none⟩,
    ⟨.load 32 (.v 2), .push, (some ((.v 3), false)), true, 4, none⟩,
    ⟨.call 25 [(.l 1), (.l 0)], .push, (some ((.v 3), false)), false, 5, (some 0)⟩,
    ⟨.un .not (.l 0), .push, (some ((.v 3), false)), false, 6, none⟩,
    ⟨.pick (.v 3) (.k (.bool true)) (.l 0), .push, none, true, 7, none⟩,
    ⟨.fieldAddr 32 (.v 2) 3, .push, (some ((.l 0), false)), true, 9, none⟩,
    ⟨.load 29 (.l 0), .push, (some ((.l 1), false)), true, 10, none⟩,
    ⟨.call 26 [(.l 0), (.k (.clo 27 []))], .push, (some ((.l 2), false)), false, 11, (some 1)⟩,
    ⟨.pick (.l 3) (.k (.bool true)) (.l 0), .push, none, true, 12, none⟩]) (.cond (.l 0) (.seq (.reg [⟨.mv (.k (.bool false)), (.var 10), none, true, 0, none⟩]) .ret) .skip)) (.seq (.seq (.reg [⟨.fieldAddr 32 (.v 2) 4, .push, none, true, 0, none⟩,
    ⟨.load 30 (.l 0), (.var 7), none, true, 1, none⟩,
    ⟨.len 30 (.v 7), (.var 6), none, false, 2, none⟩,
    ⟨.mv (.k (.int .i64 0)), (.var 5), none, true, 3, none⟩]) (.block 0 (.loop (.seq (.reg [⟨.bin .lss 3 false false (.v 5) (.v 6), .push, none, false, 0, none⟩]) (.seq (.cond (.l 0) .skip (.exit 0)) (.seq (.block 1 (.seq (.reg [⟨.indexAddr 30 (.v 7) (.v 5), .push, none, true, 1, none⟩,
    ⟨.load 32 (.l 0), .push, none, true, 2, none⟩,
    ⟨.alloc 32, (.var 9), none, false, 3, (some 0)⟩,
    ⟨.mv (.v 5), (.var 8), none, true, 4, none⟩,
    ⟨.store 32 (.v 9) (.l 0), .none, none, false, 5, none⟩]) (.seq (.dreg 1 [0, 1, 0, 0, 8, 24, 56, 124, 255, 511, 0, 2047, 4095] [⟨.fieldAddr 25 (.v 4) 1, .push, none, true, 0, none⟩,
    ⟨.load 23 (.l 0), .push, none, true, 1, none⟩,
    ⟨.fieldAddr 25 (.v 4) 1, .push, none, true, 3, none⟩,
    ⟨.load 23 (.l 0), .push, none, true, 4, none⟩,
    ⟨.len 23 (.l 0), .push, none, false, 5, none⟩,
    ⟨.bin .sub 3 false true (.l 0) (.k (.int .i64 1)), .push, none, false, 6, none⟩,
    ⟨.most false [(.v 8), (.l 0)], .push, none, false, 7, none⟩,
    ⟨.indexAddr 23 (.l 5) (.l 0), .push, none, true, 8, none⟩,
    ⟨.load 25 (.l 0), .push, none, true, 9, none⟩,
    ⟨.load 32 (.v 9), .push, none, true, 10, none⟩,
    ⟨.call 11 [(.l 1), (.l 0)], .push, none, false, 11, (some 0)⟩,
    ⟨.un .not (.l 0), .push, none, false, 12, none⟩]) (.cond (.l 0) (.seq (.reg [⟨.mv (.k (.bool false)), (.var 10), none, true, 0, none⟩]) .ret) .skip)))) (.reg [⟨.bin .add 3 false true (.v 5) (.k (.int .i64 1)), .push, none, false, 0, none⟩,
    ⟨.mv (.l 0), (.var 5), none, true, 1, none⟩]))))))) (.seq (.reg [⟨.mv (.k (.bool true)), (.var 10), none, true, 0, none⟩]) .ret))))), [.tmp (.v 10)]⟩
noncomputable def G11 (E : Env) : ZFn := ⟨46, [0, 1, 3, 5, 2, 27, 26, 25, 6, 7, 4], fun cy Y fuel =>
  (zSeq (zReg fun k => (zStep E (cy Y) ⟨.box 25 (.v 0), (.var 4), none, false, 0, (some 0)⟩) ((zStep E (cy Y) ⟨.box 32 (.v 1), (.var 2), none, false, 1, (some 1)⟩) ((zDst (.var 10) (vMv (.k (.bool false)))) k)))
  (zSeq (zReg fun k => (zDst .push (vFieldAddr 2 (.v 2))) ((zDstW .push (wLoad 1 false (.l 0))) ((zCall (cy Y) 23 [(.l 0), (.k (.clo 24 []))] .push) ((zDst (.var 3) (vMv (.l 0))) k))))
  (zSeq (zSeq (zReg fun k => (zG (.v 3) false .push (zDst .push (vFieldAddr 0 (.v 4)))) ((zG (.v 3) false .push (zDstW .push (wLoad 1 false (.l 0)))) ((zG (.v 3) false .push (zDstW .push (wLoad 5 true (.v 2)))) ((zG (.v 3) false .push (zCall (cy Y) 25 [(.l 1), (.l 0)] .push)) ((zG (.v 3) false .push (zDst .push (vNot (.l 0)))) ((zDst .push (vPick (.v 3) (.k (.bool true)) (.l 0))) ((zG (.l 0) false .push (zDst .push (vFieldAddr 3 (.v 2)))) ((zG (.l 1) false .push (zDstW .push (wLoad 1 false (.l 0)))) ((zG (.l 2) false .push (zCall (cy Y) 26 [(.l 0), (.k (.clo 27 []))] .push)) ((zDst .push (vPick (.l 3) (.k (.bool true)) (.l 0))) k))))))))))
  (zCond (.l 0) (zSeq (zReg fun k => (zDst (.var 10) (vMv (.k (.bool false)))) k)
  zRet) zSkip))
  (zSeq (zSeq (zReg fun k => (zDst .push (vFieldAddr 4 (.v 2))) ((zDstW (.var 7) (wLoad 1 false (.l 0))) ((zDst (.var 6) (vLenL (.v 7))) ((zDst (.var 5) (vMv (.k (.int .i64 0)))) k))))
  (zBlock 0 (zLoop fuel (zSeq (zReg fun k => (zDst .push (vInt E fLss .lss 3 false false (.v 5) (.v 6))) k)
  (zSeq (zCond (.l 0) zSkip (zExit 0))
  (zSeq (zBlock 1 (zSeq (zReg fun k => (zDst .push (vIndexAddr 5 (.v 7) (.v 5))) ((zDstW .push (wLoad 5 true (.l 0))) ((zStep E (cy Y) ⟨.alloc 32, (.var 9), none, false, 3, (some 0)⟩) ((zDst (.var 8) (vMv (.v 5))) ((zStep E (cy Y) ⟨.store 32 (.v 9) (.l 0), .none, none, false, 5, none⟩) k)))))
  (zSeq (zDreg 1 fun n0 k => (fun k sp => zDst .push (vFieldAddr 1 (.v 4)) (k sp)) ((zDstWD [0, 1, 0, 0, 8, 24, 56, 124, 255, 511, 0, 2047, 4095] 1 .push (wLoad 1 false (.l 0))) ((fun k sp => zDst .push (vFieldAddr 1 (.v 4)) (k sp)) ((zDstWD [0, 1, 0, 0, 8, 24, 56, 124, 255, 511, 0, 2047, 4095] 4 .push (wLoad 1 false (.l 0))) ((fun k sp => zDst .push (vLenL (.l 0)) (k sp)) ((fun k sp => zDst .push (vInt E fSub .sub 3 false true (.l 0) (.k (.int .i64 1))) (k sp)) ((zStepD E (cy Y) [0, 1, 0, 0, 8, 24, 56, 124, 255, 511, 0, 2047, 4095] n0 ⟨.most false [(.v 8), (.l 0)], .push, none, false, 7, none⟩) ((fun k sp => zDst .push (vIndexAddr 2 (.l 5) (.l 0)) (k sp)) ((zDstWD [0, 1, 0, 0, 8, 24, 56, 124, 255, 511, 0, 2047, 4095] 9 .push (wLoad 2 true (.l 0))) ((zDstWD [0, 1, 0, 0, 8, 24, 56, 124, 255, 511, 0, 2047, 4095] 10 .push (wLoad 5 true (.v 9))) ((zCallD (cy Y) [0, 1, 0, 0, 8, 24, 56, 124, 255, 511, 0, 2047, 4095] 11 11 [(.l 1), (.l 0)] .push) ((fun k sp => zDst .push (vNot (.l 0)) (k sp)) k))))))))))))
  (zCond (.l 0) (zSeq (zReg fun k => (zDst (.var 10) (vMv (.k (.bool false)))) k)
  zRet) zSkip))))
  (zReg fun k => (zDst .push (vInt E fAdd .add 3 false true (.v 5) (.k (.int .i64 1)))) ((zDst (.var 5) (vMv (.l 0))) k))))))))
  (zSeq (zReg fun k => (zDst (.var 10) (vMv (.k (.bool true)))) k)
  zRet))))), [.tmp (.v 10)]⟩
theorem G11_ok (fn : Nat → Option Func) (pu : Nat → Bool) (pr : Nat → List AV → Option (Heap → Option (Eff × Acc))) : ZOk ⟨Tryz.tyT, fn, pu, pr⟩ npT F11 (G11 ⟨Tryz.tyT, fn, pu, pr⟩) := ⟨rfl, rfl, rfl, fun cy Y k => by kernel_rfl⟩
noncomputable def F12 : FFn := ⟨49, [0, 1, 2, 8, 3, 6, 4, 5], (.seq (.reg [⟨.box 25 (.v 0), (.var 2), none, false, 0, (some 0)⟩,
    ⟨.box 32 (.v 1), (.var 4), none, false, 1, (some 1)⟩,
    ⟨.alloc 32, (.var 6), none, false, 2, (some 2)⟩,
    ⟨.mv (.k .nilIface), (.var 7), none, true, 3, none⟩]) (.seq (.seq (.reg [⟨.fieldAddr 25 (.v 2) 0, .push, none, true, 0, none⟩,
    ⟨.load 3 (.l 0), (.var 3), none, true, 1, none⟩]) (.block 0 (.seq (.reg [⟨.bin .eql 3 false true (.v 3) (.k (.int .i64 3)), .push, none, false, 0, none⟩,
    ⟨.mv (.l 0), .push, none, true, 1, none⟩]) (.cond (.l 0) (.seq (.reg [⟨.fieldAddr 32 (.v 4) 2, .push, none, true, 0, none⟩,
    ⟨.load 27 (.l 0), .push, none, true, 1, none⟩,
    ⟨.call 28 [(.l 0)], .push, none, false, 2, (some 0)⟩,
    ⟨.mv (.l 0), (.var 5), none, true, 3, none⟩]) (.seq (.seq (.reg [⟨.len 27 (.v 5), .push, none, false, 1, none⟩,
    ⟨.bin .gtr 3 false true (.l 0) (.k (.int .i64 40)), .push, none, false, 2, none⟩]) (.cond (.l 0) (.seq (.reg [⟨.build 32 [], .push, none, false, 0, none⟩,
    ⟨.mkIface 39 (.k (.int .i64 13)), .push, none, false, 1, none⟩,
    ⟨.store 32 (.v 6) (.l 1), .none, none, false, 2, none⟩,
    ⟨.mv (.l 0), (.var 7), none, true, 3, none⟩]) .ret) .skip)) (.seq (.reg [⟨.build 32 [(2, (.v 5))], .push, none, false, 1, none⟩,
    ⟨.store 32 (.v 6) (.l 0), .none, none, false, 2, none⟩,
    ⟨.mv (.k .nilIface), (.var 7), none, true, 3, none⟩]) .ret))) (.seq (.reg [⟨.bin .eql 3 false true (.v 3) (.k (.int .i64 4)), .push, none, false, 0, none⟩,
    ⟨.mv (.l 0), .push, none, true, 1, none⟩]) (.cond (.l 0) (.seq (.reg [⟨.load 25 (.v 2), .push, none, true, 0, none⟩,
    ⟨.load 32 (.v 4), .push, none, true, 1, none⟩,
    ⟨.call 29 [(.l 1), (.l 0)], .push, none, false, 2, (some 0)⟩,
    ⟨.extract (.l 0) 0, .push, none, true, 3, none⟩,
    ⟨.extract (.l 1) 1, .push, none, true, 4, none⟩,
    ⟨.store 32 (.v 6) (.l 1), .none, none, false, 5, none⟩,
    ⟨.mv (.l 0), (.var 7), none, true, 6, none⟩]) .ret) (.seq (.reg [⟨.bin .eql 3 false true (.v 3) (.k (.int .i64 5)), .push, none, false, 0, none⟩,
    ⟨.mv (.l 0), .push, none, true, 1, none⟩]) (.cond (.l 0) (.seq (.reg [⟨.load 25 (.v 2), .push, none, true, 0, none⟩,
    ⟨.load 32 (.v 4), .push, none, true, 1, none⟩,
    ⟨.call 30 [(.l 1), (.l 0)], .push, none, false, 2, (some 0)⟩,
    ⟨.extract (.l 0) 0, .push, none, true, 3, none⟩,
    ⟨.extract (.l 1) 1, .push, none, true, 4, none⟩,
    ⟨.store 32 (.v 6) (.l 1), .none, none, false, 5, none⟩,
    ⟨.mv (.l 0), (.var 7), none, true, 6, none⟩]) .ret) (.seq (.reg [⟨.bin .eql 3 false true (.v 3) (.k (.int .i64 7)), .push, none, false, 0, none⟩,
    ⟨.mv (.l 0), .push, none, true, 1, none⟩]) (.cond (.l 0) (.seq (.reg [⟨.load 32 (.v 4), .push, none, true, 0, none⟩,
    ⟨.call 31 [(.l 0)], .push, none, false, 1, (some 0)⟩,
    ⟨.extract (.l 0) 0, .push, none, true, 2, none⟩,
    ⟨.extract (.l 1) 1, .push, none, true, 3, none⟩,
    ⟨.store 32 (.v 6) (.l 1), .none, none, false, 4, none⟩,
    ⟨.mv (.l 0), (.var 7), none, true, 5, none⟩]) .ret) (.seq (.reg [⟨.bin .eql 3 false true (.v 3) (.k (.int .i64 8)), .push, none, false, 0, none⟩,
    ⟨.mv (.l 0), .push, none, true, 1, none⟩]) (.cond (.l 0) (.seq (.reg [⟨.load 25 (.v 2), .push, none, true, 0, none⟩,
    ⟨.load 32 (.v 4), .push, none, true, 1, none⟩,
    ⟨.call 32 [(.l 1), (.l 0)], .push, none, false, 2, (some 0)⟩,
    ⟨.extract (.l 0) 0, .push, none, true, 3, none⟩,
    ⟨.extract (.l 1) 1, .push, none, true, 4, none⟩,
    ⟨.store 32 (.v 6) (.l 1), .none, none, false, 5, none⟩,
    ⟨.mv (.l 0), (.var 7), none, true, 6, none⟩]) .ret) .skip)))))))))))) (.seq (.reg [⟨.load 32 (.v 4), .push, none, true, 0, none⟩,
    ⟨.store 32 (.v 6) (.l 0), .none, none, false, 1, none⟩,
    ⟨.mv (.k .nilIface), (.var 7), none, true, 2, none⟩]) .ret))), [.cell (.v 6) 32, .tmp (.v 7)]⟩
noncomputable def G12 (E : Env) : ZFn := ⟨49, [0, 1, 2, 8, 3, 6, 4, 5], fun cy Y fuel =>
  (zSeq (zReg fun k => (zStep E (cy Y) ⟨.box 25 (.v 0), (.var 2), none, false, 0, (some 0)⟩) ((zStep E (cy Y) ⟨.box 32 (.v 1), (.var 4), none, false, 1, (some 1)⟩) ((zStep E (cy Y) ⟨.alloc 32, (.var 6), none, false, 2, (some 2)⟩) ((zDst (.var 7) (vMv (.k .nilIface))) k))))
  (zSeq (zSeq (zReg fun k => (zDst .push (vFieldAddr 0 (.v 2))) ((zDstW (.var 3) (wLoad 1 false (.l 0))) k))
  (zBlock 0 (zSeq (zReg fun k => (zDst .push (vInt E fEql .eql 3 false true (.v 3) (.k (.int .i64 3)))) ((zDst .push (vMv (.l 0))) k))
  (zCond (.l 0) (zSeq (zReg fun k => (zDst .push (vFieldAddr 2 (.v 4))) ((zDstW .push (wLoad 1 false (.l 0))) ((zCall (cy Y) 28 [(.l 0)] .push) ((zDst (.var 5) (vMv (.l 0))) k))))
  (zSeq (zSeq (zReg fun k => (zDst .push (vLenL (.v 5))) ((zDst .push (vInt E fGtr .gtr 3 false true (.l 0) (.k (.int .i64 40)))) k))
  (zCond (.l 0) (zSeq (zReg fun k => (zStep E (cy Y) ⟨.build 32 [], .push, none, false, 0, none⟩) ((zStep E (cy Y) ⟨.mkIface 39 (.k (.int .i64 13)), .push, none, false, 1, none⟩) ((zStep E (cy Y) ⟨.store 32 (.v 6) (.l 1), .none, none, false, 2, none⟩) ((zDst (.var 7) (vMv (.l 0))) k))))
  zRet) zSkip))
  (zSeq (zReg fun k => (zStep E (cy Y) ⟨.build 32 [(2, (.v 5))], .push, none, false, 1, none⟩) ((zStep E (cy Y) ⟨.store 32 (.v 6) (.l 0), .none, none, false, 2, none⟩) ((zDst (.var 7) (vMv (.k .nilIface))) k)))
  zRet))) (zSeq (zReg fun k => (zDst .push (vInt E fEql .eql 3 false true (.v 3) (.k (.int .i64 4)))) ((zDst .push (vMv (.l 0))) k))
  (zCond (.l 0) (zSeq (zReg fun k => (zDstW .push (wLoad 2 true (.v 2))) ((zDstW .push (wLoad 5 true (.v 4))) ((zCall (cy Y) 29 [(.l 1), (.l 0)] .push) ((zDst .push (vExtract 0 (.l 0))) ((zDst .push (vExtract 1 (.l 1))) ((zStep E (cy Y) ⟨.store 32 (.v 6) (.l 1), .none, none, false, 5, none⟩) ((zDst (.var 7) (vMv (.l 0))) k)))))))
  zRet) (zSeq (zReg fun k => (zDst .push (vInt E fEql .eql 3 false true (.v 3) (.k (.int .i64 5)))) ((zDst .push (vMv (.l 0))) k))
  (zCond (.l 0) (zSeq (zReg fun k => (zDstW .push (wLoad 2 true (.v 2))) ((zDstW .push (wLoad 5 true (.v 4))) ((zCall (cy Y) 30 [(.l 1), (.l 0)] .push) ((zDst .push (vExtract 0 (.l 0))) ((zDst .push (vExtract 1 (.l 1))) ((zStep E (cy Y) ⟨.store 32 (.v 6) (.l 1), .none, none, false, 5, none⟩) ((zDst (.var 7) (vMv (.l 0))) k)))))))
  zRet) (zSeq (zReg fun k => (zDst .push (vInt E fEql .eql 3 false true (.v 3) (.k (.int .i64 7)))) ((zDst .push (vMv (.l 0))) k))
  (zCond (.l 0) (zSeq (zReg fun k => (zDstW .push (wLoad 5 true (.v 4))) ((zCall (cy Y) 31 [(.l 0)] .push) ((zDst .push (vExtract 0 (.l 0))) ((zDst .push (vExtract 1 (.l 1))) ((zStep E (cy Y) ⟨.store 32 (.v 6) (.l 1), .none, none, false, 4, none⟩) ((zDst (.var 7) (vMv (.l 0))) k))))))
  zRet) (zSeq (zReg fun k => (zDst .push (vInt E fEql .eql 3 false true (.v 3) (.k (.int .i64 8)))) ((zDst .push (vMv (.l 0))) k))
  (zCond (.l 0) (zSeq (zReg fun k => (zDstW .push (wLoad 2 true (.v 2))) ((zDstW .push (wLoad 5 true (.v 4))) ((zCall (cy Y) 32 [(.l 1), (.l 0)] .push) ((zDst .push (vExtract 0 (.l 0))) ((zDst .push (vExtract 1 (.l 1))) ((zStep E (cy Y) ⟨.store 32 (.v 6) (.l 1), .none, none, false, 5, none⟩) ((zDst (.var 7) (vMv (.l 0))) k)))))))
  zRet) zSkip))))))))))))
  (zSeq (zReg fun k => (zDstW .push (wLoad 5 true (.v 4))) ((zStep E (cy Y) ⟨.store 32 (.v 6) (.l 0), .none, none, false, 1, none⟩) ((zDst (.var 7) (vMv (.k .nilIface))) k)))
  zRet))), [.cell (.v 6) 32, .tmp (.v 7)]⟩
theorem G12_ok (fn : Nat → Option Func) (pu : Nat → Bool) (pr : Nat → List AV → Option (Heap → Option (Eff × Acc))) : ZOk ⟨Tryz.tyT, fn, pu, pr⟩ npT F12 (G12 ⟨Tryz.tyT, fn, pu, pr⟩) := ⟨rfl, rfl, rfl, fun cy Y k => by kernel_rfl⟩
noncomputable def F15 : FFn := ⟨6, [0, 2], (.seq (.reg [⟨.mv (.k (.bool false)), (.var 1), none, true, 0, none⟩]) (.seq (.reg [⟨.call 33 [(.v 0), (.k (.clo 34 []))], .push, none, false, 1, (some 0)⟩,
    ⟨.un .not (.l 0), .push, none, false, 2, none⟩,
    ⟨.mv (.l 0), (.var 1), none, true, 3, none⟩]) .ret)), [.tmp (.v 1)]⟩
noncomputable def G15 (E : Env) : ZFn := ⟨6, [0, 2], fun cy Y fuel =>
  (zSeq (zReg fun k => (zDst (.var 1) (vMv (.k (.bool false)))) k)
  (zSeq (zReg fun k => (zCall (cy Y) 33 [(.v 0), (.k (.clo 34 []))] .push) ((zDst .push (vNot (.l 0))) ((zDst (.var 1) (vMv (.l 0))) k)))
  zRet)), [.tmp (.v 1)]⟩
theorem G15_ok (fn : Nat → Option Func) (pu : Nat → Bool) (pr : Nat → List AV → Option (Heap → Option (Eff × Acc))) : ZOk ⟨Tryz.tyT, fn, pu, pr⟩ npT F15 (G15 ⟨Tryz.tyT, fn, pu, pr⟩) := ⟨rfl, rfl, rfl, fun cy Y k => by kernel_rfl⟩
noncomputable def F17 : FFn := ⟨9, [0, 1], (.reg [⟨.len 41 (.v 0), .push, none, false, 2, none⟩,
    ⟨.call 35 [(.v 0), (.l 0), (.v 1)], .push, none, false, 4, (some 0)⟩]), []⟩
noncomputable def G17 (E : Env) : ZFn := ⟨9, [0, 1], fun cy Y fuel =>
  (zReg fun k => (zDst .push (vLenL (.v 0))) ((zCall (cy Y) 35 [(.v 0), (.l 0), (.v 1)] .push) k)), []⟩
theorem G17_ok (fn : Nat → Option Func) (pu : Nat → Bool) (pr : Nat → List AV → Option (Heap → Option (Eff × Acc))) : ZOk ⟨Tryz.tyT, fn, pu, pr⟩ npT F17 (G17 ⟨Tryz.tyT, fn, pu, pr⟩) := ⟨rfl, rfl, rfl, fun cy Y k => by kernel_rfl⟩
noncomputable def F18 : FFn := ⟨17, [0, 1, 2, 3, 4], (.seq (.reg [⟨.box 45 (.v 0), (.var 2), none, false, 0, (some 0)⟩,
    ⟨.box 45 (.v 1), (.var 3), none, false, 1, (some 1)⟩,
    ⟨.mv (.k (.int .i64 0)), (.var 4), none, true, 2, none⟩]) (.seq (.dreg 4 [0, 1, 0, 4, 15, 0, 32, 0, 128, 511, 1023, 2047, 4095] [⟨.fieldAddr 45 (.v 2) 0, .push, none, true, 0, none⟩,
    ⟨.load 3 (.l 0), .push, none, true, 1, none⟩,
    ⟨.fieldAddr 45 (.v 3) 0, .push, none, true, 2, none⟩,
    ⟨.load 3 (.l 0), .push, none, true, 3, none⟩,
    ⟨.call 20 [(.l 2), (.l 0)], .push, none, false, 4, (some 0)⟩,
    ⟨.fieldAddr 45 (.v 3) 1, .push, none, true, 5, none⟩,
    ⟨.load 28 (.l 0), .push, none, true, 6, none⟩,
    ⟨.fieldAddr 45 (.v 2) 1, .push, none, true, 7, none⟩,
    ⟨.load 28 (.l 0), .push, none, true, 8, none⟩,
    ⟨.call 21 [(.l 2), (.l 0)], .push, none, false, 9, (some 1)⟩,
    ⟨.buildSlice 81 2 [(0, (.l 5)), (1, (.l 0))], .push, none, false, 10, (some 2)⟩,
    ⟨.call 19 [(.l 0)], .push, none, false, 11, (some 3)⟩,
    ⟨.mv (.l 0), (.var 4), none, true, 12, none⟩]) .ret)), [.tmp (.v 4)]⟩
noncomputable def G18 (E : Env) : ZFn := ⟨17, [0, 1, 2, 3, 4], fun cy Y fuel =>
  (zSeq (zReg fun k => (zStep E (cy Y) ⟨.box 45 (.v 0), (.var 2), none, false, 0, (some 0)⟩) ((zStep E (cy Y) ⟨.box 45 (.v 1), (.var 3), none, false, 1, (some 1)⟩) ((zDst (.var 4) (vMv (.k (.int .i64 0)))) k)))
  (zSeq (zDreg 4 fun n0 k => (fun k sp => zDst .push (vFieldAddr 0 (.v 2)) (k sp)) ((zDstWD [0, 1, 0, 4, 15, 0, 32, 0, 128, 511, 1023, 2047, 4095] 1 .push (wLoad 1 false (.l 0))) ((fun k sp => zDst .push (vFieldAddr 0 (.v 3)) (k sp)) ((zDstWD [0, 1, 0, 4, 15, 0, 32, 0, 128, 511, 1023, 2047, 4095] 3 .push (wLoad 1 false (.l 0))) ((zCallD (cy Y) [0, 1, 0, 4, 15, 0, 32, 0, 128, 511, 1023, 2047, 4095] 4 20 [(.l 2), (.l 0)] .push) ((fun k sp => zDst .push (vFieldAddr 1 (.v 3)) (k sp)) ((zDstWD [0, 1, 0, 4, 15, 0, 32, 0, 128, 511, 1023, 2047, 4095] 6 .push (wLoad 1 false (.l 0))) ((fun k sp => zDst .push (vFieldAddr 1 (.v 2)) (k sp)) ((zDstWD [0, 1, 0, 4, 15, 0, 32, 0, 128, 511, 1023, 2047, 4095] 8 .push (wLoad 1 false (.l 0))) ((zCallD (cy Y) [0, 1, 0, 4, 15, 0, 32, 0, 128, 511, 1023, 2047, 4095] 9 21 [(.l 2), (.l 0)] .push) ((zStepD E (cy Y) [0, 1, 0, 4, 15, 0, 32, 0, 128, 511, 1023, 2047, 4095] n0 ⟨.buildSlice 81 2 [(0, (.l 5)), (1, (.l 0))], .push, none, false, 10, (some 2)⟩) ((zCallD (cy Y) [0, 1, 0, 4, 15, 0, 32, 0, 128, 511, 1023, 2047, 4095] 11 19 [(.l 0)] .push) ((fun k sp => zDst (.var 4) (vMv (.l 0)) (k sp)) k)))))))))))))
  zRet)), [.tmp (.v 4)]⟩
theorem G18_ok (fn : Nat → Option Func) (pu : Nat → Bool) (pr : Nat → List AV → Option (Heap → Option (Eff × Acc))) : ZOk ⟨Tryz.tyT, fn, pu, pr⟩ npT F18 (G18 ⟨Tryz.tyT, fn, pu, pr⟩) := ⟨rfl, rfl, rfl, fun cy Y k => by kernel_rfl⟩
noncomputable def F19 : FFn := ⟨18, [0, 8, 7, 6, 5, 3, 2], (.seq (.reg [⟨.mv (.k (.int .i64 0)), (.var 6), none, true, 0, none⟩]) (.seq (.reg [⟨.mv (.k (.int .i64 0)), (.var 5), none, true, 0, none⟩]) (.seq (.seq (.reg [⟨.mv (.v 0), (.var 3), none, true, 0, none⟩,
    ⟨.len 81 (.v 3), (.var 2), none, false, 1, none⟩,
    ⟨.mv (.k (.int .i64 0)), (.var 1), none, true, 2, none⟩]) (.block 0 (.loop (.seq (.reg [⟨.bin .lss 3 false false (.v 1) (.v 2), .push, none, false, 0, none⟩]) (.seq (.cond (.l 0) .skip (.exit 0)) (.seq (.block 1 (.seq (.reg [⟨.indexAddr 81 (.v 3) (.v 1), .push, none, true, 0, none⟩,
    ⟨.load 3 (.l 0), .push, none, true, 1, none⟩,
    ⟨.mv (.l 0), (.var 4), none, true, 2, none⟩]) (.seq (.reg [⟨.bin .neq 3 false false (.v 4) (.v 5), .push, none, false, 2, none⟩]) (.cond (.l 0) (.seq (.reg [⟨.mv (.v 4), (.var 6), none, true, 1, none⟩]) .ret) .skip)))) (.reg [⟨.bin .add 3 false true (.v 1) (.k (.int .i64 1)), .push, none, false, 0, none⟩,
    ⟨.mv (.l 0), (.var 1), none, true, 1, none⟩]))))))) (.seq (.reg [⟨.mv (.v 5), (.var 6), none, true, 1, none⟩]) .ret)))), [.tmp (.v 6)]⟩
noncomputable def G19 (E : Env) : ZFn := ⟨18, [0, 8, 7, 6, 5, 3, 2], fun cy Y fuel =>
  (zSeq (zReg fun k => (zDst (.var 6) (vMv (.k (.int .i64 0)))) k)
  (zSeq (zReg fun k => (zDst (.var 5) (vMv (.k (.int .i64 0)))) k)
  (zSeq (zSeq (zReg fun k => (zDst (.var 3) (vMv (.v 0))) ((zDst (.var 2) (vLenL (.v 3))) ((zDst (.var 1) (vMv (.k (.int .i64 0)))) k)))
  (zBlock 0 (zLoop fuel (zSeq (zReg fun k => (zDst .push (vInt E fLss .lss 3 false false (.v 1) (.v 2))) k)
  (zSeq (zCond (.l 0) zSkip (zExit 0))
  (zSeq (zBlock 1 (zSeq (zReg fun k => (zDst .push (vIndexAddr 1 (.v 3) (.v 1))) ((zDstW .push (wLoad 1 false (.l 0))) ((zDst (.var 4) (vMv (.l 0))) k)))
  (zSeq (zReg fun k => (zDst .push (vInt E fNeq .neq 3 false false (.v 4) (.v 5))) k)
  (zCond (.l 0) (zSeq (zReg fun k => (zDst (.var 6) (vMv (.v 4))) k)
  zRet) zSkip))))
  (zReg fun k => (zDst .push (vInt E fAdd .add 3 false true (.v 1) (.k (.int .i64 1)))) ((zDst (.var 1) (vMv (.l 0))) k))))))))
  (zSeq (zReg fun k => (zDst (.var 6) (vMv (.v 5))) k)
  zRet)))), [.tmp (.v 6)]⟩
theorem G19_ok (fn : Nat → Option Func) (pu : Nat → Bool) (pr : Nat → List AV → Option (Heap → Option (Eff × Acc))) : ZOk ⟨Tryz.tyT, fn, pu, pr⟩ npT F19 (G19 ⟨Tryz.tyT, fn, pu, pr⟩) := ⟨rfl, rfl, rfl, fun cy Y k => by kernel_rfl⟩
noncomputable def F20 : FFn := ⟨20, [0, 1, 5, 6, 4], (.seq (.reg [⟨.mv (.k (.int .i64 0)), (.var 4), none, true, 0, none⟩]) (.seq (.reg [⟨.call 36 [(.v 0)], .push, none, false, 1, (some 0)⟩,
    ⟨.mv (.l 0), (.var 2), none, true, 2, none⟩]) (.seq (.reg [⟨.call 36 [(.v 1)], .push, none, false, 1, (some 0)⟩,
    ⟨.mv (.l 0), (.var 3), none, true, 2, none⟩]) (.seq (.seq (.reg []) (.cond (.v 2) (.seq (.seq (.reg []) (.cond (.v 3) (.seq (.reg [⟨.mv (.k (.int .i64 0)), (.var 4), none, true, 0, none⟩]) .ret) .skip)) (.seq (.reg [⟨.mv (.k (.int .i64 (-1))), (.var 4), none, true, 0, none⟩]) .ret)) .skip)) (.seq (.seq (.reg []) (.cond (.v 3) (.seq (.reg [⟨.mv (.k (.int .i64 1)), (.var 4), none, true, 0, none⟩]) .ret) .skip)) (.seq (.seq (.reg [⟨.bin .lss 3 false false (.v 0) (.v 1), .push, none, false, 2, none⟩]) (.cond (.l 0) (.seq (.reg [⟨.mv (.k (.int .i64 (-1))), (.var 4), none, true, 0, none⟩]) .ret) .skip)) (.seq (.seq (.reg [⟨.bin .gtr 3 false false (.v 0) (.v 1), .push, none, false, 2, none⟩]) (.cond (.l 0) (.seq (.reg [⟨.mv (.k (.int .i64 1)), (.var 4), none, true, 0, none⟩]) .ret) .skip)) (.seq (.reg [⟨.mv (.k (.int .i64 0)), (.var 4), none, true, 0, none⟩]) .ret)))))))), [.tmp (.v 4)]⟩
noncomputable def G20 (E : Env) : ZFn := ⟨20, [0, 1, 5, 6, 4], fun cy Y fuel =>
  (zSeq (zReg fun k => (zDst (.var 4) (vMv (.k (.int .i64 0)))) k)
  (zSeq (zReg fun k => (zCall (cy Y) 36 [(.v 0)] .push) ((zDst (.var 2) (vMv (.l 0))) k))
  (zSeq (zReg fun k => (zCall (cy Y) 36 [(.v 1)] .push) ((zDst (.var 3) (vMv (.l 0))) k))
  (zSeq (zSeq (zReg fun k => k)
  (zCond (.v 2) (zSeq (zSeq (zReg fun k => k)
  (zCond (.v 3) (zSeq (zReg fun k => (zDst (.var 4) (vMv (.k (.int .i64 0)))) k)
  zRet) zSkip))
  (zSeq (zReg fun k => (zDst (.var 4) (vMv (.k (.int .i64 (-1))))) k)
  zRet)) zSkip))
  (zSeq (zSeq (zReg fun k => k)
  (zCond (.v 3) (zSeq (zReg fun k => (zDst (.var 4) (vMv (.k (.int .i64 1)))) k)
  zRet) zSkip))
  (zSeq (zSeq (zReg fun k => (zDst .push (vInt E fLss .lss 3 false false (.v 0) (.v 1))) k)
  (zCond (.l 0) (zSeq (zReg fun k => (zDst (.var 4) (vMv (.k (.int .i64 (-1))))) k)
  zRet) zSkip))
  (zSeq (zSeq (zReg fun k => (zDst .push (vInt E fGtr .gtr 3 false false (.v 0) (.v 1))) k)
  (zCond (.l 0) (zSeq (zReg fun k => (zDst (.var 4) (vMv (.k (.int .i64 1)))) k)
  zRet) zSkip))
  (zSeq (zReg fun k => (zDst (.var 4) (vMv (.k (.int .i64 0)))) k)
  zRet)))))))), [.tmp (.v 4)]⟩
theorem G20_ok (fn : Nat → Option Func) (pu : Nat → Bool) (pr : Nat → List AV → Option (Heap → Option (Eff × Acc))) : ZOk ⟨Tryz.tyT, fn, pu, pr⟩ npT F20 (G20 ⟨Tryz.tyT, fn, pu, pr⟩) := ⟨rfl, rfl, rfl, fun cy Y k => by kernel_rfl⟩
noncomputable def F21 : FFn := ⟨20, [0, 1, 5, 6, 4], (.seq (.reg [⟨.mv (.k (.int .i64 0)), (.var 4), none, true, 0, none⟩]) (.seq (.reg [⟨.call 37 [(.v 0)], .push, none, false, 1, (some 0)⟩,
    ⟨.mv (.l 0), (.var 2), none, true, 2, none⟩]) (.seq (.reg [⟨.call 37 [(.v 1)], .push, none, false, 1, (some 0)⟩,
    ⟨.mv (.l 0), (.var 3), none, true, 2, none⟩]) (.seq (.seq (.reg []) (.cond (.v 2) (.seq (.seq (.reg []) (.cond (.v 3) (.seq (.reg [⟨.mv (.k (.int .i64 0)), (.var 4), none, true, 0, none⟩]) .ret) .skip)) (.seq (.reg [⟨.mv (.k (.int .i64 (-1))), (.var 4), none, true, 0, none⟩]) .ret)) .skip)) (.seq (.seq (.reg []) (.cond (.v 3) (.seq (.reg [⟨.mv (.k (.int .i64 1)), (.var 4), none, true, 0, none⟩]) .ret) .skip)) (.seq (.seq (.reg [⟨.bin .lss 28 false false (.v 0) (.v 1), .push, none, false, 2, none⟩]) (.cond (.l 0) (.seq (.reg [⟨.mv (.k (.int .i64 (-1))), (.var 4), none, true, 0, none⟩]) .ret) .skip)) (.seq (.seq (.reg [⟨.bin .gtr 28 false false (.v 0) (.v 1), .push, none, false, 2, none⟩]) (.cond (.l 0) (.seq (.reg [⟨.mv (.k (.int .i64 1)), (.var 4), none, true, 0, none⟩]) .ret) .skip)) (.seq (.reg [⟨.mv (.k (.int .i64 0)), (.var 4), none, true, 0, none⟩]) .ret)))))))), [.tmp (.v 4)]⟩
noncomputable def G21 (E : Env) : ZFn := ⟨20, [0, 1, 5, 6, 4], fun cy Y fuel =>
  (zSeq (zReg fun k => (zDst (.var 4) (vMv (.k (.int .i64 0)))) k)
  (zSeq (zReg fun k => (zCall (cy Y) 37 [(.v 0)] .push) ((zDst (.var 2) (vMv (.l 0))) k))
  (zSeq (zReg fun k => (zCall (cy Y) 37 [(.v 1)] .push) ((zDst (.var 3) (vMv (.l 0))) k))
  (zSeq (zSeq (zReg fun k => k)
  (zCond (.v 2) (zSeq (zSeq (zReg fun k => k)
  (zCond (.v 3) (zSeq (zReg fun k => (zDst (.var 4) (vMv (.k (.int .i64 0)))) k)
  zRet) zSkip))
  (zSeq (zReg fun k => (zDst (.var 4) (vMv (.k (.int .i64 (-1))))) k)
  zRet)) zSkip))
  (zSeq (zSeq (zReg fun k => k)
  (zCond (.v 3) (zSeq (zReg fun k => (zDst (.var 4) (vMv (.k (.int .i64 1)))) k)
  zRet) zSkip))
  (zSeq (zSeq (zReg fun k => (zDst .push (vInt E fLss .lss 28 false false (.v 0) (.v 1))) k)
  (zCond (.l 0) (zSeq (zReg fun k => (zDst (.var 4) (vMv (.k (.int .i64 (-1))))) k)
  zRet) zSkip))
  (zSeq (zSeq (zReg fun k => (zDst .push (vInt E fGtr .gtr 28 false false (.v 0) (.v 1))) k)
  (zCond (.l 0) (zSeq (zReg fun k => (zDst (.var 4) (vMv (.k (.int .i64 1)))) k)
  zRet) zSkip))
  (zSeq (zReg fun k => (zDst (.var 4) (vMv (.k (.int .i64 0)))) k)
  zRet)))))))), [.tmp (.v 4)]⟩
theorem G21_ok (fn : Nat → Option Func) (pu : Nat → Bool) (pr : Nat → List AV → Option (Heap → Option (Eff × Acc))) : ZOk ⟨Tryz.tyT, fn, pu, pr⟩ npT F21 (G21 ⟨Tryz.tyT, fn, pu, pr⟩) := ⟨rfl, rfl, rfl, fun cy Y k => by kernel_rfl⟩
noncomputable def F22 : FFn := ⟨20, [0, 1, 3, 2, 4], (.seq (.reg [⟨.box 25 (.v 0), (.var 3), none, false, 0, (some 0)⟩,
    ⟨.box 3 (.v 1), (.var 2), none, false, 1, (some 1)⟩,
    ⟨.mv (.k (.bool false)), (.var 4), none, true, 2, none⟩]) (.seq (.seq (.dreg 1 [0, 1, 3, 7, 15, 31, 7, 71, 199, 511, 1023] [⟨.load 3 (.v 2), .push, none, true, 0, none⟩,
    ⟨.bin .eql 3 false true (.l 0) (.k (.int .i64 0)), .push, none, false, 1, none⟩,
    ⟨.fieldAddr 25 (.v 3) 0, .push, (some ((.l 0), false)), true, 3, none⟩,
    ⟨.load 3 (.l 0), .push, (some ((.l 1), false)), true, 4, none⟩,
    ⟨.call 38 [(.l 0)], .push, (some ((.l 2), false)), false, 5, (some 0)⟩,
    ⟨.fieldAddr 25 (.v 3) 1, .push, (some ((.l 3), false)), true, 6, none⟩,
    ⟨.load 23 (.l 0), .push, (some ((.l 4), false)), true, 7, none⟩,
    ⟨.len 23 (.l 0), .push, (some ((.l 5), false)), false, 8, none⟩,
    ⟨.bin .neq 3 false false (.l 3) (.l 0), .push, (some ((.l 6), false)), false, 9, none⟩,
    ⟨.pick (.l 7) (.k (.bool true)) (.l 0), .push, none, true, 10, none⟩]) (.cond (.l 0) (.seq (.reg [⟨.mv (.k (.bool false)), (.var 4), none, true, 0, none⟩]) .ret) .skip)) (.seq (.reg [⟨.fieldAddr 25 (.v 3) 1, .push, none, true, 0, none⟩,
    ⟨.load 23 (.l 0), .push, none, true, 1, none⟩,
    ⟨.mkFunc 40 [(.v 2)], .push, none, false, 2, none⟩,
    ⟨.call 39 [(.l 1), (.l 0)], .push, none, false, 3, (some 0)⟩,
    ⟨.mv (.l 0), (.var 4), none, true, 4, none⟩]) .ret))), [.tmp (.v 4)]⟩
noncomputable def G22 (E : Env) : ZFn := ⟨20, [0, 1, 3, 2, 4], fun cy Y fuel =>
  (zSeq (zReg fun k => (zStep E (cy Y) ⟨.box 25 (.v 0), (.var 3), none, false, 0, (some 0)⟩) ((zStep E (cy Y) ⟨.box 3 (.v 1), (.var 2), none, false, 1, (some 1)⟩) ((zDst (.var 4) (vMv (.k (.bool false)))) k)))
  (zSeq (zSeq (zDreg 1 fun n0 k => (zDstWD [0, 1, 3, 7, 15, 31, 7, 71, 199, 511, 1023] 0 .push (wLoad 1 false (.v 2))) ((fun k sp => zDst .push (vInt E fEql .eql 3 false true (.l 0) (.k (.int .i64 0))) (k sp)) ((zGD (.l 0) false .push (fun k sp => zDst .push (vFieldAddr 0 (.v 3)) (k sp))) ((zGD (.l 1) false .push (zDstWD [0, 1, 3, 7, 15, 31, 7, 71, 199, 511, 1023] 4 .push (wLoad 1 false (.l 0)))) ((zGD (.l 2) false .push (zCallD (cy Y) [0, 1, 3, 7, 15, 31, 7, 71, 199, 511, 1023] 5 38 [(.l 0)] .push)) ((zGD (.l 3) false .push (fun k sp => zDst .push (vFieldAddr 1 (.v 3)) (k sp))) ((zGD (.l 4) false .push (zDstWD [0, 1, 3, 7, 15, 31, 7, 71, 199, 511, 1023] 7 .push (wLoad 1 false (.l 0)))) ((zGD (.l 5) false .push (fun k sp => zDst .push (vLenL (.l 0)) (k sp))) ((zGD (.l 6) false .push (fun k sp => zDst .push (vInt E fNeq .neq 3 false false (.l 3) (.l 0)) (k sp))) ((fun k sp => zDst .push (vPick (.l 7) (.k (.bool true)) (.l 0)) (k sp)) k))))))))))
  (zCond (.l 0) (zSeq (zReg fun k => (zDst (.var 4) (vMv (.k (.bool false)))) k)
  zRet) zSkip))
  (zSeq (zReg fun k => (zDst .push (vFieldAddr 1 (.v 3))) ((zDstW .push (wLoad 1 false (.l 0))) ((zStep E (cy Y) ⟨.mkFunc 40 [(.v 2)], .push, none, false, 2, none⟩) ((zCall (cy Y) 39 [(.l 1), (.l 0)] .push) ((zDst (.var 4) (vMv (.l 0))) k)))))
  zRet))), [.tmp (.v 4)]⟩
theorem G22_ok (fn : Nat → Option Func) (pu : Nat → Bool) (pr : Nat → List AV → Option (Heap → Option (Eff × Acc))) : ZOk ⟨Tryz.tyT, fn, pu, pr⟩ npT F22 (G22 ⟨Tryz.tyT, fn, pu, pr⟩) := ⟨rfl, rfl, rfl, fun cy Y k => by kernel_rfl⟩
noncomputable def F23 : FFn := ⟨9, [0, 1, 4], (.seq (.reg [⟨.mv (.k (.bool false)), (.var 2), none, true, 0, none⟩]) (.seq (.reg [⟨.call 41 [(.v 0), (.v 1)], .push, none, false, 2, (some 0)⟩,
    ⟨.bin .geq 3 false true (.l 0) (.k (.int .i64 0)), .push, none, false, 3, none⟩,
    ⟨.mv (.l 0), (.var 2), none, true, 4, none⟩]) .ret)), [.tmp (.v 2)]⟩
noncomputable def G23 (E : Env) : ZFn := ⟨9, [0, 1, 4], fun cy Y fuel =>
  (zSeq (zReg fun k => (zDst (.var 2) (vMv (.k (.bool false)))) k)
  (zSeq (zReg fun k => (zCall (cy Y) 41 [(.v 0), (.v 1)] .push) ((zDst .push (vInt E (fGen .geq) .geq 3 false true (.l 0) (.k (.int .i64 0)))) ((zDst (.var 2) (vMv (.l 0))) k)))
  zRet)), [.tmp (.v 2)]⟩
theorem G23_ok (fn : Nat → Option Func) (pu : Nat → Bool) (pr : Nat → List AV → Option (Heap → Option (Eff × Acc))) : ZOk ⟨Tryz.tyT, fn, pu, pr⟩ npT F23 (G23 ⟨Tryz.tyT, fn, pu, pr⟩) := ⟨rfl, rfl, rfl, fun cy Y k => by kernel_rfl⟩
noncomputable def F24 : FFn := ⟨6, [0, 2], (.seq (.reg [⟨.mv (.k (.bool false)), (.var 1), none, true, 0, none⟩]) (.seq (.reg [⟨.len 9 (.v 0), .push, none, false, 1, none⟩,
    ⟨.bin .gtr 3 false true (.l 0) (.k (.int .i64 16)), .push, none, false, 2, none⟩,
    ⟨.mv (.l 0), (.var 1), none, true, 3, none⟩]) .ret)), [.tmp (.v 1)]⟩
noncomputable def G24 (E : Env) : ZFn := ⟨6, [0, 2], fun cy Y fuel =>
  (zSeq (zReg fun k => (zDst (.var 1) (vMv (.k (.bool false)))) k)
  (zSeq (zReg fun k => (zDst .push (vLenS (.v 0))) ((zDst .push (vInt E fGtr .gtr 3 false true (.l 0) (.k (.int .i64 16)))) ((zDst (.var 1) (vMv (.l 0))) k)))
  zRet)), [.tmp (.v 1)]⟩
theorem G24_ok (fn : Nat → Option Func) (pu : Nat → Bool) (pr : Nat → List AV → Option (Heap → Option (Eff × Acc))) : ZOk ⟨Tryz.tyT, fn, pu, pr⟩ npT F24 (G24 ⟨Tryz.tyT, fn, pu, pr⟩) := ⟨rfl, rfl, rfl, fun cy Y k => by kernel_rfl⟩
noncomputable def F25 : FFn := ⟨123, [1, 5, 3, 0, 27, 6, 7, 4], (.seq (.reg [⟨.box 32 (.v 0), (.var 2), none, false, 0, (some 0)⟩,
    ⟨.mv (.k (.bool false)), (.var 7), none, true, 1, none⟩]) (.seq (.reg [⟨.mv (.k (.clo 42 [])), (.var 1), none, true, 0, none⟩]) (.seq (.reg [⟨.fieldAddr 32 (.v 2) 2, .push, none, true, 1, none⟩,
    ⟨.load 27 (.l 0), .push, none, true, 2, none⟩,
    ⟨.len 27 (.l 0), .push, none, false, 3, none⟩,
    ⟨.fieldAddr 32 (.v 2) 3, .push, none, true, 4, none⟩,
    ⟨.load 29 (.l 0), .push, none, true, 5, none⟩,
    ⟨.len 29 (.l 0), .push, none, false, 6, none⟩,
    ⟨.fieldAddr 32 (.v 2) 4, .push, none, true, 7, none⟩,
    ⟨.load 30 (.l 0), .push, none, true, 8, none⟩,
    ⟨.len 30 (.l 0), .push, none, false, 9, none⟩,
    ⟨.callv (.v 1) [(.l 6), (.l 3), (.l 0)], .push, none, false, 10, (some 0)⟩,
    ⟨.alloc 87, (.var 5), none, false, 11, (some 1)⟩,
    ⟨.store 87 (.v 5) (.l 0), .none, none, false, 12, none⟩]) (.seq (.reg [⟨.fieldAddr 32 (.v 2) 0, .push, none, true, 0, none⟩,
    ⟨.load 28 (.l 0), .push, none, true, 1, none⟩,
    ⟨.bin .eql 28 false true (.l 0) (.k (.int .u64 0)), .push, none, false, 2, none⟩,
    ⟨.fieldAddr 32 (.v 2) 1, .push, (some ((.l 0), true)), true, 4, none⟩,
    ⟨.load 28 (.l 0), .push, (some ((.l 1), true)), true, 5, none⟩,
    ⟨.bin .eql 28 false true (.l 0) (.k (.int .u64 0)), .push, (some ((.l 2), true)), false, 6, none⟩,
    ⟨.pick (.l 3) (.l 0) (.k (.bool false)), .push, none, true, 7, none⟩,
    ⟨.mv (.l 0), (.var 6), none, true, 8, none⟩]) (.seq (.seq (.reg [⟨.mv (.v 3), (.var 4), none, true, 0, none⟩]) (.block 0 (.seq (.reg [⟨.bin .eql 3 false true (.v 4) (.k (.int .i64 1)), .push, none, false, 0, none⟩,
    ⟨.mv (.l 0), .push, none, true, 1, none⟩]) (.cond (.l 0) (.seq (.dreg 1 [0, 1, 3, 7, 15, 15, 47, 127, 255, 511] [⟨.fieldAddr 32 (.v 2) 1, .push, none, true, 0, none⟩,
    ⟨.load 28 (.l 0), .push, none, true, 1, none⟩,
    ⟨.bin .eql 28 false true (.l 0) (.k (.int .u64 0)), .push, none, false, 2, none⟩,
    ⟨.load 87 (.v 5), .push, (some ((.l 0), true)), true, 4, none⟩,
    ⟨.mv (.v 1), .push, (some ((.l 1), true)), true, 5, none⟩,
    ⟨.callv (.l 0) [(.k (.int .i64 0)), (.k (.int .i64 0)), (.k (.int .i64 0))], .push, (some ((.l 2), true)), false, 6, (some 0)⟩,
    ⟨.bin .eql 87 false false (.l 2) (.l 0), .push, (some ((.l 3), true)), false, 7, none⟩,
    ⟨.pick (.l 4) (.l 0) (.k (.bool false)), .push, none, true, 8, none⟩,
    ⟨.mv (.l 0), (.var 7), none, true, 9, none⟩]) .ret) (.seq (.reg [⟨.bin .eql 3 false true (.v 4) (.k (.int .i64 2)), .push, none, false, 0, none⟩,
    ⟨.mv (.l 0), .push, none, true, 1, none⟩]) (.cond (.l 0) (.seq (.dreg 1 [0, 1, 3, 7, 15, 31, 63, 127, 255, 511, 511, 1535, 4095, 8191, 16383] [⟨.fieldAddr 32 (.v 2) 0, .push, none, true, 0, none⟩,
    ⟨.load 28 (.l 0), .push, none, true, 1, none⟩,
    ⟨.bin .leq 28 false true (.l 0) (.k (.int .u64 1)), .push, none, false, 2, none⟩,
    ⟨.fieldAddr 32 (.v 2) 1, .push, (some ((.l 0), true)), true, 4, none⟩,
    ⟨.load 28 (.l 0), .push, (some ((.l 1), true)), true, 5, none⟩,
    ⟨.bin .eql 28 false true (.l 0) (.k (.int .u64 0)), .push, (some ((.l 2), true)), false, 6, none⟩,
    ⟨.pick (.l 3) (.l 0) (.k (.bool false)), .push, none, true, 7, none⟩,
    ⟨.load 87 (.v 5), .push, (some ((.l 0), true)), true, 9, none⟩,
    ⟨.mv (.v 1), .push, (some ((.l 1), true)), true, 10, none⟩,
    ⟨.callv (.l 0) [(.k (.int .i64 0)), (.k (.int .i64 0)), (.k (.int .i64 0))], .push, (some ((.l 2), true)), false, 11, (some 0)⟩,
    ⟨.bin .eql 87 false false (.l 2) (.l 0), .push, (some ((.l 3), true)), false, 12, none⟩,
    ⟨.pick (.l 4) (.l 0) (.k (.bool false)), .push, none, true, 13, none⟩,
    ⟨.mv (.l 0), (.var 7), none, true, 14, none⟩]) .ret) (.seq (.reg [⟨.bin .eql 3 false true (.v 4) (.k (.int .i64 3)), .push, none, false, 0, none⟩,
    ⟨.mv (.l 0), .push, none, true, 1, none⟩]) (.cond (.l 0) (.seq (.dreg 1 [0, 1, 3, 3, 3, 19, 51, 123, 255, 511, 1023] [⟨.load 87 (.v 5), .push, (some ((.v 6), true)), true, 2, none⟩,
    ⟨.mv (.v 1), .push, (some ((.v 6), true)), true, 3, none⟩,
    ⟨.fieldAddr 32 (.v 2) 2, .push, (some ((.v 6), true)), true, 4, none⟩,
    ⟨.load 27 (.l 0), .push, (some ((.v 6), true)), true, 5, none⟩,
    ⟨.len 27 (.l 0), .push, (some ((.v 6), true)), false, 6, none⟩,
    ⟨.callv (.l 3) [(.l 0), (.k (.int .i64 0)), (.k (.int .i64 0))], .push, (some ((.v 6), true)), false, 7, (some 0)⟩,
    ⟨.bin .eql 87 false false (.l 5) (.l 0), .push, (some ((.v 6), true)), false, 8, none⟩,
    ⟨.pick (.v 6) (.l 0) (.k (.bool false)), .push, none, true, 9, none⟩,
    ⟨.mv (.l 0), (.var 7), none, true, 10, none⟩]) .ret) (.seq (.reg [⟨.bin .eql 3 false true (.v 4) (.k (.int .i64 4)), .push, none, false, 0, none⟩,
    ⟨.mv (.l 0), .push, none, true, 1, none⟩]) (.cond (.l 0) (.seq (.dreg 1 [0, 1, 3, 3, 3, 19, 51, 3, 131, 387, 1019, 2047, 4095, 8191] [⟨.load 87 (.v 5), .push, (some ((.v 6), true)), true, 2, none⟩,
    ⟨.mv (.v 1), .push, (some ((.v 6), true)), true, 3, none⟩,
    ⟨.fieldAddr 32 (.v 2) 4, .push, (some ((.v 6), true)), true, 4, none⟩,
    ⟨.load 30 (.l 0), .push, (some ((.v 6), true)), true, 5, none⟩,
    ⟨.len 30 (.l 0), .push, (some ((.v 6), true)), false, 6, none⟩,
    ⟨.fieldAddr 32 (.v 2) 2, .push, (some ((.v 6), true)), true, 7, none⟩,
    ⟨.load 27 (.l 0), .push, (some ((.v 6), true)), true, 8, none⟩,
    ⟨.len 27 (.l 0), .push, (some ((.v 6), true)), false, 9, none⟩,
    ⟨.callv (.l 6) [(.l 3), (.k (.int .i64 0)), (.l 0)], .push, (some ((.v 6), true)), false, 10, (some 0)⟩,
    ⟨.bin .eql 87 false false (.l 8) (.l 0), .push, (some ((.v 6), true)), false, 11, none⟩,
    ⟨.pick (.v 6) (.l 0) (.k (.bool false)), .push, none, true, 12, none⟩,
    ⟨.mv (.l 0), (.var 7), none, true, 13, none⟩]) .ret) (.seq (.reg [⟨.bin .eql 3 false true (.v 4) (.k (.int .i64 5)), .push, none, false, 0, none⟩,
    ⟨.mv (.l 0), .push, none, true, 1, none⟩]) (.cond (.l 0) (.seq (.dreg 1 [0, 1, 3, 3, 11, 31, 63, 127] [⟨.load 87 (.v 5), .push, (some ((.v 6), true)), true, 2, none⟩,
    ⟨.mv (.v 1), .push, (some ((.v 6), true)), true, 3, none⟩,
    ⟨.callv (.l 0) [(.k (.int .i64 0)), (.k (.int .i64 0)), (.k (.int .i64 2))], .push, (some ((.v 6), true)), false, 4, (some 0)⟩,
    ⟨.bin .eql 87 false false (.l 2) (.l 0), .push, (some ((.v 6), true)), false, 5, none⟩,
    ⟨.pick (.v 6) (.l 0) (.k (.bool false)), .push, none, true, 6, none⟩,
    ⟨.mv (.l 0), (.var 7), none, true, 7, none⟩]) .ret) (.seq (.reg [⟨.bin .eql 3 false true (.v 4) (.k (.int .i64 6)), .push, none, false, 0, none⟩,
    ⟨.mv (.l 0), .push, none, true, 1, none⟩]) (.cond (.l 0) (.seq (.reg [⟨.build 25 [(0, (.v 3))], .push, none, false, 1, none⟩,
    ⟨.load 32 (.v 2), .push, none, true, 2, none⟩,
    ⟨.call 43 [(.l 1), (.l 0)], .push, none, false, 3, (some 0)⟩,
    ⟨.mv (.l 0), (.var 7), none, true, 4, none⟩]) .ret) (.seq (.reg [⟨.bin .eql 3 false true (.v 4) (.k (.int .i64 7)), .push, none, false, 0, none⟩,
    ⟨.mv (.l 0), .push, none, true, 1, none⟩]) (.cond (.l 0) (.seq (.dreg 1 [0, 1, 3, 3, 3, 19, 51, 115, 251, 511, 1023, 2047] [⟨.load 87 (.v 5), .push, (some ((.v 6), true)), true, 2, none⟩,
    ⟨.mv (.v 1), .push, (some ((.v 6), true)), true, 3, none⟩,
    ⟨.fieldAddr 32 (.v 2) 3, .push, (some ((.v 6), true)), true, 4, none⟩,
    ⟨.load 29 (.l 0), .push, (some ((.v 6), true)), true, 5, none⟩,
    ⟨.len 29 (.l 0), .push, (some ((.v 6), true)), false, 6, none⟩,
    ⟨.most false [(.l 0), (.k (.int .i64 1))], .push, (some ((.v 6), true)), false, 7, none⟩,
    ⟨.callv (.l 4) [(.k (.int .i64 0)), (.l 0), (.k (.int .i64 0))], .push, (some ((.v 6), true)), false, 8, (some 0)⟩,
    ⟨.bin .eql 87 false false (.l 6) (.l 0), .push, (some ((.v 6), true)), false, 9, none⟩,
    ⟨.pick (.v 6) (.l 0) (.k (.bool false)), .push, none, true, 10, none⟩,
    ⟨.mv (.l 0), (.var 7), none, true, 11, none⟩]) .ret) .skip)))))))))))))))) (.seq (.dreg 1 [0, 1, 3, 3, 3, 19, 51, 3, 131, 387, 1019, 2047, 4095, 8191] [⟨.load 87 (.v 5), .push, (some ((.v 6), true)), true, 2, none⟩,
    ⟨.mv (.v 1), .push, (some ((.v 6), true)), true, 3, none⟩,
    ⟨.fieldAddr 32 (.v 2) 4, .push, (some ((.v 6), true)), true, 4, none⟩,
    ⟨.load 30 (.l 0), .push, (some ((.v 6), true)), true, 5, none⟩,
    ⟨.len 30 (.l 0), .push, (some ((.v 6), true)), false, 6, none⟩,
    ⟨.fieldAddr 32 (.v 2) 3, .push, (some ((.v 6), true)), true, 7, none⟩,
    ⟨.load 29 (.l 0), .push, (some ((.v 6), true)), true, 8, none⟩,
    ⟨.len 29 (.l 0), .push, (some ((.v 6), true)), false, 9, none⟩,
    ⟨.callv (.l 6) [(.k (.int .i64 0)), (.l 3), (.l 0)], .push, (some ((.v 6), true)), false, 10, (some 0)⟩,
    ⟨.bin .eql 87 false false (.l 8) (.l 0), .push, (some ((.v 6), true)), false, 11, none⟩,
    ⟨.pick (.v 6) (.l 0) (.k (.bool false)), .push, none, true, 12, none⟩,
    ⟨.mv (.l 0), (.var 7), none, true, 13, none⟩]) .ret)))))), [.tmp (.v 7)]⟩
noncomputable def G25 (E : Env) : ZFn := ⟨123, [1, 5, 3, 0, 27, 6, 7, 4], fun cy Y fuel =>
  (zSeq (zReg fun k => (zStep E (cy Y) ⟨.box 32 (.v 0), (.var 2), none, false, 0, (some 0)⟩) ((zDst (.var 7) (vMv (.k (.bool false)))) k))
  (zSeq (zReg fun k => (zDst (.var 1) (vMv (.k (.clo 42 [])))) k)
  (zSeq (zReg fun k => (zDst .push (vFieldAddr 2 (.v 2))) ((zDstW .push (wLoad 1 false (.l 0))) ((zDst .push (vLenL (.l 0))) ((zDst .push (vFieldAddr 3 (.v 2))) ((zDstW .push (wLoad 1 false (.l 0))) ((zDst .push (vLenL (.l 0))) ((zDst .push (vFieldAddr 4 (.v 2))) ((zDstW .push (wLoad 1 false (.l 0))) ((zDst .push (vLenL (.l 0))) ((zStep E (cy Y) ⟨.callv (.v 1) [(.l 6), (.l 3), (.l 0)], .push, none, false, 10, (some 0)⟩) ((zStep E (cy Y) ⟨.alloc 87, (.var 5), none, false, 11, (some 1)⟩) ((zStep E (cy Y) ⟨.store 87 (.v 5) (.l 0), .none, none, false, 12, none⟩) k))))))))))))
  (zSeq (zReg fun k => (zDst .push (vFieldAddr 0 (.v 2))) ((zDstW .push (wLoad 1 false (.l 0))) ((zDst .push (vInt E fEql .eql 28 false true (.l 0) (.k (.int .u64 0)))) ((zG (.l 0) true .push (zDst .push (vFieldAddr 1 (.v 2)))) ((zG (.l 1) true .push (zDstW .push (wLoad 1 false (.l 0)))) ((zG (.l 2) true .push (zDst .push (vInt E fEql .eql 28 false true (.l 0) (.k (.int .u64 0))))) ((zDst .push (vPick (.l 3) (.l 0) (.k (.bool false)))) ((zDst (.var 6) (vMv (.l 0))) k))))))))
  (zSeq (zSeq (zReg fun k => (zDst (.var 4) (vMv (.v 3))) k)
  (zBlock 0 (zSeq (zReg fun k => (zDst .push (vInt E fEql .eql 3 false true (.v 4) (.k (.int .i64 1)))) ((zDst .push (vMv (.l 0))) k))
  (zCond (.l 0) (zSeq (zDreg 1 fun n0 k => (fun k sp => zDst .push (vFieldAddr 1 (.v 2)) (k sp)) ((zDstWD [0, 1, 3, 7, 15, 15, 47, 127, 255, 511] 1 .push (wLoad 1 false (.l 0))) ((fun k sp => zDst .push (vInt E fEql .eql 28 false true (.l 0) (.k (.int .u64 0))) (k sp)) ((zGD (.l 0) true .push (zDstWD [0, 1, 3, 7, 15, 15, 47, 127, 255, 511] 4 .push (wLoad 3 true (.v 5)))) ((zGD (.l 1) true .push (fun k sp => zDst .push (vMv (.v 1)) (k sp))) ((zGD (.l 2) true .push (zStepD E (cy Y) [0, 1, 3, 7, 15, 15, 47, 127, 255, 511] n0 ⟨.callv (.l 0) [(.k (.int .i64 0)), (.k (.int .i64 0)), (.k (.int .i64 0))], .push, none, false, 6, (some 0)⟩)) ((zGD (.l 3) true .push (fun k sp => zDst .push (vInt E fEql .eql 87 false false (.l 2) (.l 0)) (k sp))) ((fun k sp => zDst .push (vPick (.l 4) (.l 0) (.k (.bool false))) (k sp)) ((fun k sp => zDst (.var 7) (vMv (.l 0)) (k sp)) k)))))))))
  zRet) (zSeq (zReg fun k => (zDst .push (vInt E fEql .eql 3 false true (.v 4) (.k (.int .i64 2)))) ((zDst .push (vMv (.l 0))) k))
  (zCond (.l 0) (zSeq (zDreg 1 fun n0 k => (fun k sp => zDst .push (vFieldAddr 0 (.v 2)) (k sp)) ((zDstWD [0, 1, 3, 7, 15, 31, 63, 127, 255, 511, 511, 1535, 4095, 8191, 16383] 1 .push (wLoad 1 false (.l 0))) ((fun k sp => zDst .push (vInt E (fGen .leq) .leq 28 false true (.l 0) (.k (.int .u64 1))) (k sp)) ((zGD (.l 0) true .push (fun k sp => zDst .push (vFieldAddr 1 (.v 2)) (k sp))) ((zGD (.l 1) true .push (zDstWD [0, 1, 3, 7, 15, 31, 63, 127, 255, 511, 511, 1535, 4095, 8191, 16383] 5 .push (wLoad 1 false (.l 0)))) ((zGD (.l 2) true .push (fun k sp => zDst .push (vInt E fEql .eql 28 false true (.l 0) (.k (.int .u64 0))) (k sp))) ((fun k sp => zDst .push (vPick (.l 3) (.l 0) (.k (.bool false))) (k sp)) ((zGD (.l 0) true .push (zDstWD [0, 1, 3, 7, 15, 31, 63, 127, 255, 511, 511, 1535, 4095, 8191, 16383] 9 .push (wLoad 3 true (.v 5)))) ((zGD (.l 1) true .push (fun k sp => zDst .push (vMv (.v 1)) (k sp))) ((zGD (.l 2) true .push (zStepD E (cy Y) [0, 1, 3, 7, 15, 31, 63, 127, 255, 511, 511, 1535, 4095, 8191, 16383] n0 ⟨.callv (.l 0) [(.k (.int .i64 0)), (.k (.int .i64 0)), (.k (.int .i64 0))], .push, none, false, 11, (some 0)⟩)) ((zGD (.l 3) true .push (fun k sp => zDst .push (vInt E fEql .eql 87 false false (.l 2) (.l 0)) (k sp))) ((fun k sp => zDst .push (vPick (.l 4) (.l 0) (.k (.bool false))) (k sp)) ((fun k sp => zDst (.var 7) (vMv (.l 0)) (k sp)) k)))))))))))))
  zRet) (zSeq (zReg fun k => (zDst .push (vInt E fEql .eql 3 false true (.v 4) (.k (.int .i64 3)))) ((zDst .push (vMv (.l 0))) k))
  (zCond (.l 0) (zSeq (zDreg 1 fun n0 k => (zGD (.v 6) true .push (zDstWD [0, 1, 3, 3, 3, 19, 51, 123, 255, 511, 1023] 2 .push (wLoad 3 true (.v 5)))) ((zGD (.v 6) true .push (fun k sp => zDst .push (vMv (.v 1)) (k sp))) ((zGD (.v 6) true .push (fun k sp => zDst .push (vFieldAddr 2 (.v 2)) (k sp))) ((zGD (.v 6) true .push (zDstWD [0, 1, 3, 3, 3, 19, 51, 123, 255, 511, 1023] 5 .push (wLoad 1 false (.l 0)))) ((zGD (.v 6) true .push (fun k sp => zDst .push (vLenL (.l 0)) (k sp))) ((zGD (.v 6) true .push (zStepD E (cy Y) [0, 1, 3, 3, 3, 19, 51, 123, 255, 511, 1023] n0 ⟨.callv (.l 3) [(.l 0), (.k (.int .i64 0)), (.k (.int .i64 0))], .push, none, false, 7, (some 0)⟩)) ((zGD (.v 6) true .push (fun k sp => zDst .push (vInt E fEql .eql 87 false false (.l 5) (.l 0)) (k sp))) ((fun k sp => zDst .push (vPick (.v 6) (.l 0) (.k (.bool false))) (k sp)) ((fun k sp => zDst (.var 7) (vMv (.l 0)) (k sp)) k)))))))))
  zRet) (zSeq (zReg fun k => (zDst .push (vInt E fEql .eql 3 false true (.v 4) (.k (.int .i64 4)))) ((zDst .push (vMv (.l 0))) k))
  (zCond (.l 0) (zSeq (zDreg 1 fun n0 k => (zGD (.v 6) true .push (zDstWD [0, 1, 3, 3, 3, 19, 51, 3, 131, 387, 1019, 2047, 4095, 8191] 2 .push (wLoad 3 true (.v 5)))) ((zGD (.v 6) true .push (fun k sp => zDst .push (vMv (.v 1)) (k sp))) ((zGD (.v 6) true .push (fun k sp => zDst .push (vFieldAddr 4 (.v 2)) (k sp))) ((zGD (.v 6) true .push (zDstWD [0, 1, 3, 3, 3, 19, 51, 3, 131, 387, 1019, 2047, 4095, 8191] 5 .push (wLoad 1 false (.l 0)))) ((zGD (.v 6) true .push (fun k sp => zDst .push (vLenL (.l 0)) (k sp))) ((zGD (.v 6) true .push (fun k sp => zDst .push (vFieldAddr 2 (.v 2)) (k sp))) ((zGD (.v 6) true .push (zDstWD [0, 1, 3, 3, 3, 19, 51, 3, 131, 387, 1019, 2047, 4095, 8191] 8 .push (wLoad 1 false (.l 0)))) ((zGD (.v 6) true .push (fun k sp => zDst .push (vLenL (.l 0)) (k sp))) ((zGD (.v 6) true .push (zStepD E (cy Y) [0, 1, 3, 3, 3, 19, 51, 3, 131, 387, 1019, 2047, 4095, 8191] n0 ⟨.callv (.l 6) [(.l 3), (.k (.int .i64 0)), (.l 0)], .push, none, false, 10, (some 0)⟩)) ((zGD (.v 6) true .push (fun k sp => zDst .push (vInt E fEql .eql 87 false false (.l 8) (.l 0)) (k sp))) ((fun k sp => zDst .push (vPick (.v 6) (.l 0) (.k (.bool false))) (k sp)) ((fun k sp => zDst (.var 7) (vMv (.l 0)) (k sp)) k))))))))))))
  zRet) (zSeq (zReg fun k => (zDst .push (vInt E fEql .eql 3 false true (.v 4) (.k (.int .i64 5)))) ((zDst .push (vMv (.l 0))) k))
  (zCond (.l 0) (zSeq (zDreg 1 fun n0 k => (zGD (.v 6) true .push (zDstWD [0, 1, 3, 3, 11, 31, 63, 127] 2 .push (wLoad 3 true (.v 5)))) ((zGD (.v 6) true .push (fun k sp => zDst .push (vMv (.v 1)) (k sp))) ((zGD (.v 6) true .push (zStepD E (cy Y) [0, 1, 3, 3, 11, 31, 63, 127] n0 ⟨.callv (.l 0) [(.k (.int .i64 0)), (.k (.int .i64 0)), (.k (.int .i64 2))], .push, none, false, 4, (some 0)⟩)) ((zGD (.v 6) true .push (fun k sp => zDst .push (vInt E fEql .eql 87 false false (.l 2) (.l 0)) (k sp))) ((fun k sp => zDst .push (vPick (.v 6) (.l 0) (.k (.bool false))) (k sp)) ((fun k sp => zDst (.var 7) (vMv (.l 0)) (k sp)) k))))))
  zRet) (zSeq (zReg fun k => (zDst .push (vInt E fEql .eql 3 false true (.v 4) (.k (.int .i64 6)))) ((zDst .push (vMv (.l 0))) k))
  (zCond (.l 0) (zSeq (zReg fun k => (zStep E (cy Y) ⟨.build 25 [(0, (.v 3))], .push, none, false, 1, none⟩) ((zDstW .push (wLoad 5 true (.v 2))) ((zCall (cy Y) 43 [(.l 1), (.l 0)] .push) ((zDst (.var 7) (vMv (.l 0))) k))))
  zRet) (zSeq (zReg fun k => (zDst .push (vInt E fEql .eql 3 false true (.v 4) (.k (.int .i64 7)))) ((zDst .push (vMv (.l 0))) k))
  (zCond (.l 0) (zSeq (zDreg 1 fun n0 k => (zGD (.v 6) true .push (zDstWD [0, 1, 3, 3, 3, 19, 51, 115, 251, 511, 1023, 2047] 2 .push (wLoad 3 true (.v 5)))) ((zGD (.v 6) true .push (fun k sp => zDst .push (vMv (.v 1)) (k sp))) ((zGD (.v 6) true .push (fun k sp => zDst .push (vFieldAddr 3 (.v 2)) (k sp))) ((zGD (.v 6) true .push (zDstWD [0, 1, 3, 3, 3, 19, 51, 115, 251, 511, 1023, 2047] 5 .push (wLoad 1 false (.l 0)))) ((zGD (.v 6) true .push (fun k sp => zDst .push (vLenL (.l 0)) (k sp))) ((zGD (.v 6) true .push (zStepD E (cy Y) [0, 1, 3, 3, 3, 19, 51, 115, 251, 511, 1023, 2047] n0 ⟨.most false [(.l 0), (.k (.int .i64 1))], .push, none, false, 7, none⟩)) ((zGD (.v 6) true .push (zStepD E (cy Y) [0, 1, 3, 3, 3, 19, 51, 115, 251, 511, 1023, 2047] n0 ⟨.callv (.l 4) [(.k (.int .i64 0)), (.l 0), (.k (.int .i64 0))], .push, none, false, 8, (some 0)⟩)) ((zGD (.v 6) true .push (fun k sp => zDst .push (vInt E fEql .eql 87 false false (.l 6) (.l 0)) (k sp))) ((fun k sp => zDst .push (vPick (.v 6) (.l 0) (.k (.bool false))) (k sp)) ((fun k sp => zDst (.var 7) (vMv (.l 0)) (k sp)) k))))))))))
  zRet) zSkip))))))))))))))))
  (zSeq (zDreg 1 fun n0 k => (zGD (.v 6) true .push (zDstWD [0, 1, 3, 3, 3, 19, 51, 3, 131, 387, 1019, 2047, 4095, 8191] 2 .push (wLoad 3 true (.v 5)))) ((zGD (.v 6) true .push (fun k sp => zDst .push (vMv (.v 1)) (k sp))) ((zGD (.v 6) true .push (fun k sp => zDst .push (vFieldAddr 4 (.v 2)) (k sp))) ((zGD (.v 6) true .push (zDstWD [0, 1, 3, 3, 3, 19, 51, 3, 131, 387, 1019, 2047, 4095, 8191] 5 .push (wLoad 1 false (.l 0)))) ((zGD (.v 6) true .push (fun k sp => zDst .push (vLenL (.l 0)) (k sp))) ((zGD (.v 6) true .push (fun k sp => zDst .push (vFieldAddr 3 (.v 2)) (k sp))) ((zGD (.v 6) true .push (zDstWD [0, 1, 3, 3, 3, 19, 51, 3, 131, 387, 1019, 2047, 4095, 8191] 8 .push (wLoad 1 false (.l 0)))) ((zGD (.v 6) true .push (fun k sp => zDst .push (vLenL (.l 0)) (k sp))) ((zGD (.v 6) true .push (zStepD E (cy Y) [0, 1, 3, 3, 3, 19, 51, 3, 131, 387, 1019, 2047, 4095, 8191] n0 ⟨.callv (.l 6) [(.k (.int .i64 0)), (.l 3), (.l 0)], .push, none, false, 10, (some 0)⟩)) ((zGD (.v 6) true .push (fun k sp => zDst .push (vInt E fEql .eql 87 false false (.l 8) (.l 0)) (k sp))) ((fun k sp => zDst .push (vPick (.v 6) (.l 0) (.k (.bool false))) (k sp)) ((fun k sp => zDst (.var 7) (vMv (.l 0)) (k sp)) k))))))))))))
  zRet)))))), [.tmp (.v 7)]⟩
theorem G25_ok (fn : Nat → Option Func) (pu : Nat → Bool) (pr : Nat → List AV → Option (Heap → Option (Eff × Acc))) : ZOk ⟨Tryz.tyT, fn, pu, pr⟩ npT F25 (G25 ⟨Tryz.tyT, fn, pu, pr⟩) := ⟨rfl, rfl, rfl, fun cy Y k => by kernel_rfl⟩
noncomputable def F26 : FFn := ⟨9, [0, 1, 4], (.seq (.reg [⟨.mv (.k (.bool false)), (.var 2), none, true, 0, none⟩]) (.seq (.reg [⟨.call 44 [(.v 0), (.v 1)], .push, none, false, 2, (some 0)⟩,
    ⟨.bin .geq 3 false true (.l 0) (.k (.int .i64 0)), .push, none, false, 3, none⟩,
    ⟨.mv (.l 0), (.var 2), none, true, 4, none⟩]) .ret)), [.tmp (.v 2)]⟩
noncomputable def G26 (E : Env) : ZFn := ⟨9, [0, 1, 4], fun cy Y fuel =>
  (zSeq (zReg fun k => (zDst (.var 2) (vMv (.k (.bool false)))) k)
  (zSeq (zReg fun k => (zCall (cy Y) 44 [(.v 0), (.v 1)] .push) ((zDst .push (vInt E (fGen .geq) .geq 3 false true (.l 0) (.k (.int .i64 0)))) ((zDst (.var 2) (vMv (.l 0))) k)))
  zRet)), [.tmp (.v 2)]⟩
theorem G26_ok (fn : Nat → Option Func) (pu : Nat → Bool) (pr : Nat → List AV → Option (Heap → Option (Eff × Acc))) : ZOk ⟨Tryz.tyT, fn, pu, pr⟩ npT F26 (G26 ⟨Tryz.tyT, fn, pu, pr⟩) := ⟨rfl, rfl, rfl, fun cy Y k => by kernel_rfl⟩
noncomputable def F28 : FFn := ⟨9, [0, 2], (.seq (.reg [⟨.mv (.k (.sl 0 [] true)), (.var 1), none, true, 0, none⟩]) (.seq (.reg [⟨.mv (.v 0), .push, none, true, 0, none⟩,
    ⟨.call 45 [(.l 0)], .push, none, false, 1, (some 0)⟩,
    ⟨.mv (.l 0), (.var 0), none, true, 2, none⟩]) (.seq (.reg [⟨.call 46 [(.v 0)], .push, none, false, 1, (some 0)⟩]) (.seq (.reg [⟨.call 47 [(.v 0)], .push, none, false, 1, (some 0)⟩,
    ⟨.mv (.l 0), (.var 1), none, true, 2, none⟩]) .ret)))), [.tmp (.v 1)]⟩
noncomputable def G28 (E : Env) : ZFn := ⟨9, [0, 2], fun cy Y fuel =>
  (zSeq (zReg fun k => (zDst (.var 1) (vMv (.k (.sl 0 [] true)))) k)
  (zSeq (zReg fun k => (zDst .push (vMv (.v 0))) ((zStep E (cy Y) ⟨.call 45 [(.l 0)], .push, none, false, 1, (some 0)⟩) ((zDst (.var 0) (vMv (.l 0))) k)))
  (zSeq (zReg fun k => (zCall (cy Y) 46 [(.v 0)] .push) k)
  (zSeq (zReg fun k => (zCall (cy Y) 47 [(.v 0)] .push) ((zDst (.var 1) (vMv (.l 0))) k))
  zRet)))), [.tmp (.v 1)]⟩
theorem G28_ok (fn : Nat → Option Func) (pu : Nat → Bool) (pr : Nat → List AV → Option (Heap → Option (Eff × Acc))) : ZOk ⟨Tryz.tyT, fn, pu, pr⟩ npT F28 (G28 ⟨Tryz.tyT, fn, pu, pr⟩) := ⟨rfl, rfl, rfl, fun cy Y k => by kernel_rfl⟩
noncomputable def F33 : FFn := ⟨9, [0, 1, 4], (.seq (.reg [⟨.mv (.k (.bool false)), (.var 2), none, true, 0, none⟩]) (.seq (.reg [⟨.call 54 [(.v 0), (.v 1)], .push, none, false, 2, (some 0)⟩,
    ⟨.bin .geq 3 false true (.l 0) (.k (.int .i64 0)), .push, none, false, 3, none⟩,
    ⟨.mv (.l 0), (.var 2), none, true, 4, none⟩]) .ret)), [.tmp (.v 2)]⟩
noncomputable def G33 (E : Env) : ZFn := ⟨9, [0, 1, 4], fun cy Y fuel =>
  (zSeq (zReg fun k => (zDst (.var 2) (vMv (.k (.bool false)))) k)
  (zSeq (zReg fun k => (zCall (cy Y) 54 [(.v 0), (.v 1)] .push) ((zDst .push (vInt E (fGen .geq) .geq 3 false true (.l 0) (.k (.int .i64 0)))) ((zDst (.var 2) (vMv (.l 0))) k)))
  zRet)), [.tmp (.v 2)]⟩
theorem G33_ok (fn : Nat → Option Func) (pu : Nat → Bool) (pr : Nat → List AV → Option (Heap → Option (Eff × Acc))) : ZOk ⟨Tryz.tyT, fn, pu, pr⟩ npT F33 (G33 ⟨Tryz.tyT, fn, pu, pr⟩) := ⟨rfl, rfl, rfl, fun cy Y k => by kernel_rfl⟩
noncomputable def F34 : FFn := ⟨11, [0, 1, 2], (.seq (.reg [⟨.box 45 (.v 0), (.var 1), none, false, 0, (some 0)⟩,
    ⟨.mv (.k (.bool false)), (.var 2), none, true, 1, none⟩]) (.seq (.reg [⟨.fieldAddr 45 (.v 1) 0, .push, none, true, 0, none⟩,
    ⟨.load 3 (.l 0), .push, none, true, 1, none⟩,
    ⟨.bin .lss 3 false true (.l 0) (.k (.int .i64 0)), .push, none, false, 2, none⟩,
    ⟨.fieldAddr 45 (.v 1) 0, .push, (some ((.l 0), false)), true, 4, none⟩,
    ⟨.load 3 (.l 0), .push, (some ((.l 1), false)), true, 5, none⟩,
    ⟨.bin .gtr 3 false true (.l 0) (.k (.int .i64 1000000)), .push, (some ((.l 2), false)), false, 6, none⟩,
    ⟨.pick (.l 3) (.k (.bool true)) (.l 0), .push, none, true, 7, none⟩,
    ⟨.mv (.l 0), (.var 2), none, true, 8, none⟩]) .ret)), [.tmp (.v 2)]⟩
noncomputable def G34 (E : Env) : ZFn := ⟨11, [0, 1, 2], fun cy Y fuel =>
  (zSeq (zReg fun k => (zStep E (cy Y) ⟨.box 45 (.v 0), (.var 1), none, false, 0, (some 0)⟩) ((zDst (.var 2) (vMv (.k (.bool false)))) k))
  (zSeq (zReg fun k => (zDst .push (vFieldAddr 0 (.v 1))) ((zDstW .push (wLoad 1 false (.l 0))) ((zDst .push (vInt E fLss .lss 3 false true (.l 0) (.k (.int .i64 0)))) ((zG (.l 0) false .push (zDst .push (vFieldAddr 0 (.v 1)))) ((zG (.l 1) false .push (zDstW .push (wLoad 1 false (.l 0)))) ((zG (.l 2) false .push (zDst .push (vInt E fGtr .gtr 3 false true (.l 0) (.k (.int .i64 1000000))))) ((zDst .push (vPick (.l 3) (.k (.bool true)) (.l 0))) ((zDst (.var 2) (vMv (.l 0))) k))))))))
  zRet)), [.tmp (.v 2)]⟩
theorem G34_ok (fn : Nat → Option Func) (pu : Nat → Bool) (pr : Nat → List AV → Option (Heap → Option (Eff × Acc))) : ZOk ⟨Tryz.tyT, fn, pu, pr⟩ npT F34 (G34 ⟨Tryz.tyT, fn, pu, pr⟩) := ⟨rfl, rfl, rfl, fun cy Y k => by kernel_rfl⟩
noncomputable def F35 : FFn := ⟨63, [6, 8, 1, 0, 7, 2, 9], (.seq (.reg [⟨.mv (.k (.int .i64 20)), (.var 0), none, true, 0, none⟩]) (.seq (.reg [⟨.mv (.k (.int .i64 0)), (.var 4), none, true, 1, none⟩,
    ⟨.mv (.v 0), (.var 1), none, true, 2, none⟩]) (.seq (.block 0 (.loop (.seq (.seq (.reg [⟨.bin .leq 3 false false (.v 1) (.v 2), .push, none, false, 2, none⟩]) (.cond (.l 0) .skip (.exit 0))) (.block 1 (.seq (.reg [⟨.call 55 [(.v 3), (.v 4), (.v 1), (.v 5)], .push, none, false, 4, (some 0)⟩]) (.seq (.reg [⟨.mv (.v 1), (.var 4), none, true, 1, none⟩]) (.reg [⟨.mv (.v 1), .push, none, true, 0, none⟩,
    ⟨.bin .add 3 false false (.l 0) (.v 0), .push, none, false, 2, none⟩,
    ⟨.mv (.l 0), (.var 1), none, true, 3, none⟩]))))))) (.seq (.reg [⟨.call 55 [(.v 3), (.v 4), (.v 2), (.v 5)], .push, none, false, 4, (some 0)⟩]) (.block 2 (.loop (.seq (.seq (.reg [⟨.bin .lss 3 false false (.v 0) (.v 2), .push, none, false, 2, none⟩]) (.cond (.l 0) .skip (.exit 2))) (.block 3 (.seq (.reg [⟨.bin .mul 3 true false (.k (.int .i64 2)) (.v 0), .push, none, false, 1, none⟩,
    ⟨.mv (.k (.int .i64 0)), (.var 4), none, true, 2, none⟩,
    ⟨.mv (.l 0), (.var 1), none, true, 3, none⟩]) (.seq (.block 4 (.loop (.seq (.seq (.reg [⟨.bin .leq 3 false false (.v 1) (.v 2), .push, none, false, 2, none⟩]) (.cond (.l 0) .skip (.exit 4))) (.block 5 (.seq (.reg [⟨.bin .add 3 false false (.v 4) (.v 0), .push, none, false, 4, none⟩,
    ⟨.call 56 [(.v 3), (.v 4), (.l 0), (.v 1), (.v 5)], .push, none, false, 7, (some 0)⟩]) (.seq (.reg [⟨.mv (.v 1), (.var 4), none, true, 1, none⟩]) (.reg [⟨.mv (.v 1), .push, none, true, 0, none⟩,
    ⟨.bin .mul 3 true false (.k (.int .i64 2)) (.v 0), .push, none, false, 2, none⟩,
    ⟨.bin .add 3 false false (.l 1) (.l 0), .push, none, false, 3, none⟩,
    ⟨.mv (.l 0), (.var 1), none, true, 4, none⟩]))))))) (.seq (.seq (.reg [⟨.bin .add 3 false false (.v 4) (.v 0), .push, none, false, 2, none⟩,
    ⟨.mv (.l 0), (.var 6), none, true, 3, none⟩]) (.seq (.reg [⟨.bin .lss 3 false false (.v 6) (.v 2), .push, none, false, 2, none⟩]) (.cond (.l 0) (.reg [⟨.call 56 [(.v 3), (.v 4), (.v 6), (.v 2), (.v 5)], .push, none, false, 5, (some 0)⟩]) .skip))) (.reg [⟨.mv (.v 0), .push, none, true, 0, none⟩,
    ⟨.bin .mul 3 false true (.l 0) (.k (.int .i64 2)), .push, none, false, 1, none⟩,
    ⟨.mv (.l 0), (.var 0), none, true, 2, none⟩])))))))))))), []⟩
noncomputable def G35 (E : Env) : ZFn := ⟨63, [6, 8, 1, 0, 7, 2, 9], fun cy Y fuel =>
  (zSeq (zReg fun k => (zDst (.var 0) (vMv (.k (.int .i64 20)))) k)
  (zSeq (zReg fun k => (zDst (.var 4) (vMv (.k (.int .i64 0)))) ((zDst (.var 1) (vMv (.v 0))) k))
  (zSeq (zBlock 0 (zLoop fuel (zSeq (zSeq (zReg fun k => (zDst .push (vInt E (fGen .leq) .leq 3 false false (.v 1) (.v 2))) k)
  (zCond (.l 0) zSkip (zExit 0)))
  (zBlock 1 (zSeq (zReg fun k => (zCall (cy Y) 55 [(.v 3), (.v 4), (.v 1), (.v 5)] .push) k)
  (zSeq (zReg fun k => (zDst (.var 4) (vMv (.v 1))) k)
  (zReg fun k => (zDst .push (vMv (.v 1))) ((zDst .push (vInt E fAdd .add 3 false false (.l 0) (.v 0))) ((zDst (.var 1) (vMv (.l 0))) k)))))))))
  (zSeq (zReg fun k => (zCall (cy Y) 55 [(.v 3), (.v 4), (.v 2), (.v 5)] .push) k)
  (zBlock 2 (zLoop fuel (zSeq (zSeq (zReg fun k => (zDst .push (vInt E fLss .lss 3 false false (.v 0) (.v 2))) k)
  (zCond (.l 0) zSkip (zExit 2)))
  (zBlock 3 (zSeq (zReg fun k => (zDst .push (vInt E (fGen .mul) .mul 3 true false (.k (.int .i64 2)) (.v 0))) ((zDst (.var 4) (vMv (.k (.int .i64 0)))) ((zDst (.var 1) (vMv (.l 0))) k)))
  (zSeq (zBlock 4 (zLoop fuel (zSeq (zSeq (zReg fun k => (zDst .push (vInt E (fGen .leq) .leq 3 false false (.v 1) (.v 2))) k)
  (zCond (.l 0) zSkip (zExit 4)))
  (zBlock 5 (zSeq (zReg fun k => (zDst .push (vInt E fAdd .add 3 false false (.v 4) (.v 0))) ((zCall (cy Y) 56 [(.v 3), (.v 4), (.l 0), (.v 1), (.v 5)] .push) k))
  (zSeq (zReg fun k => (zDst (.var 4) (vMv (.v 1))) k)
  (zReg fun k => (zDst .push (vMv (.v 1))) ((zDst .push (vInt E (fGen .mul) .mul 3 true false (.k (.int .i64 2)) (.v 0))) ((zDst .push (vInt E fAdd .add 3 false false (.l 1) (.l 0))) ((zDst (.var 1) (vMv (.l 0))) k))))))))))
  (zSeq (zSeq (zReg fun k => (zDst .push (vInt E fAdd .add 3 false false (.v 4) (.v 0))) ((zDst (.var 6) (vMv (.l 0))) k))
  (zSeq (zReg fun k => (zDst .push (vInt E fLss .lss 3 false false (.v 6) (.v 2))) k)
  (zCond (.l 0) (zReg fun k => (zCall (cy Y) 56 [(.v 3), (.v 4), (.v 6), (.v 2), (.v 5)] .push) k) zSkip)))
  (zReg fun k => (zDst .push (vMv (.v 0))) ((zDst .push (vInt E (fGen .mul) .mul 3 false true (.l 0) (.k (.int .i64 2)))) ((zDst (.var 0) (vMv (.l 0))) k)))))))))))))), []⟩
theorem G35_ok (fn : Nat → Option Func) (pu : Nat → Bool) (pr : Nat → List AV → Option (Heap → Option (Eff × Acc))) : ZOk ⟨Tryz.tyT, fn, pu, pr⟩ npT F35 (G35 ⟨Tryz.tyT, fn, pu, pr⟩) := ⟨rfl, rfl, rfl, fun cy Y k => by kernel_rfl⟩
noncomputable def F36 : FFn := ⟨6, [0, 2], (.seq (.reg [⟨.mv (.k (.bool false)), (.var 1), none, true, 0, none⟩]) (.seq (.reg [⟨.bin .neq 3 false false (.v 0) (.v 0), .push, none, false, 2, none⟩,
    ⟨.mv (.l 0), (.var 1), none, true, 3, none⟩]) .ret)), [.tmp (.v 1)]⟩
noncomputable def G36 (E : Env) : ZFn := ⟨6, [0, 2], fun cy Y fuel =>
  (zSeq (zReg fun k => (zDst (.var 1) (vMv (.k (.bool false)))) k)
  (zSeq (zReg fun k => (zDst .push (vInt E fNeq .neq 3 false false (.v 0) (.v 0))) ((zDst (.var 1) (vMv (.l 0))) k))
  zRet)), [.tmp (.v 1)]⟩
theorem G36_ok (fn : Nat → Option Func) (pu : Nat → Bool) (pr : Nat → List AV → Option (Heap → Option (Eff × Acc))) : ZOk ⟨Tryz.tyT, fn, pu, pr⟩ npT F36 (G36 ⟨Tryz.tyT, fn, pu, pr⟩) := ⟨rfl, rfl, rfl, fun cy Y k => by kernel_rfl⟩
noncomputable def F37 : FFn := ⟨6, [0, 2], (.seq (.reg [⟨.mv (.k (.bool false)), (.var 1), none, true, 0, none⟩]) (.seq (.reg [⟨.bin .neq 28 false false (.v 0) (.v 0), .push, none, false, 2, none⟩,
    ⟨.mv (.l 0), (.var 1), none, true, 3, none⟩]) .ret)), [.tmp (.v 1)]⟩
noncomputable def G37 (E : Env) : ZFn := ⟨6, [0, 2], fun cy Y fuel =>
  (zSeq (zReg fun k => (zDst (.var 1) (vMv (.k (.bool false)))) k)
  (zSeq (zReg fun k => (zDst .push (vInt E fNeq .neq 28 false false (.v 0) (.v 0))) ((zDst (.var 1) (vMv (.l 0))) k))
  zRet)), [.tmp (.v 1)]⟩
theorem G37_ok (fn : Nat → Option Func) (pu : Nat → Bool) (pr : Nat → List AV → Option (Heap → Option (Eff × Acc))) : ZOk ⟨Tryz.tyT, fn, pu, pr⟩ npT F37 (G37 ⟨Tryz.tyT, fn, pu, pr⟩) := ⟨rfl, rfl, rfl, fun cy Y k => by kernel_rfl⟩
noncomputable def F38 : FFn := ⟨15, [0, 3, 4, 10, 2], (.seq (.reg [⟨.mv (.k (.int .i64 0)), (.var 4), none, true, 0, none⟩]) (.seq (.seq (.reg [⟨.mv (.v 0), (.var 1), none, true, 0, none⟩]) (.block 0 (.seq (.seq (.reg [⟨.bin .eql 3 false true (.v 1) (.k (.int .i64 1)), .push, none, false, 0, none⟩,
    ⟨.mv (.l 0), (.var 2), none, true, 1, none⟩]) (.cond (.v 2) .skip (.seq (.reg [⟨.bin .eql 3 false true (.v 1) (.k (.int .i64 2)), .push, none, false, 0, none⟩,
    ⟨.mv (.l 0), (.var 2), none, true, 1, none⟩]) (.cond (.v 2) .skip (.seq (.reg [⟨.bin .eql 3 false true (.v 1) (.k (.int .i64 3)), .push, none, false, 0, none⟩,
    ⟨.mv (.l 0), (.var 2), none, true, 1, none⟩]) (.cond (.v 2) .skip (.seq (.reg [⟨.bin .eql 3 false true (.v 1) (.k (.int .i64 6)), .push, none, false, 0, none⟩,
    ⟨.mv (.l 0), (.var 2), none, true, 1, none⟩]) (.cond (.v 2) .skip (.reg [⟨.bin .eql 3 false true (.v 1) (.k (.int .i64 7)), .push, none, false, 0, none⟩,
    ⟨.mv (.l 0), (.var 2), none, true, 1, none⟩]))))))))) (.cond (.v 2) (.seq (.reg [⟨.mv (.k (.int .i64 0)), (.var 4), none, true, 0, none⟩]) .ret) (.seq (.seq (.reg [⟨.bin .eql 3 false true (.v 1) (.k (.int .i64 4)), .push, none, false, 0, none⟩,
    ⟨.mv (.l 0), (.var 3), none, true, 1, none⟩]) (.cond (.v 3) .skip (.reg [⟨.bin .eql 3 false true (.v 1) (.k (.int .i64 8)), .push, none, false, 0, none⟩,
    ⟨.mv (.l 0), (.var 3), none, true, 1, none⟩]))) (.cond (.v 3) (.seq (.reg [⟨.mv (.k (.int .i64 1)), (.var 4), none, true, 0, none⟩]) .ret) (.seq (.reg [⟨.bin .eql 3 false true (.v 1) (.k (.int .i64 5)), .push, none, false, 0, none⟩,
    ⟨.mv (.l 0), .push, none, true, 1, none⟩]) (.cond (.l 0) (.seq (.reg [⟨.mv (.k (.int .i64 2)), (.var 4), none, true, 0, none⟩]) .ret) .skip)))))))) (.seq (.reg [⟨.mv (.k (.int .i64 (-1))), (.var 4), none, true, 0, none⟩]) .ret))), [.tmp (.v 4)]⟩
noncomputable def G38 (E : Env) : ZFn := ⟨15, [0, 3, 4, 10, 2], fun cy Y fuel =>
  (zSeq (zReg fun k => (zDst (.var 4) (vMv (.k (.int .i64 0)))) k)
  (zSeq (zSeq (zReg fun k => (zDst (.var 1) (vMv (.v 0))) k)
  (zBlock 0 (zSeq (zSeq (zReg fun k => (zDst .push (vInt E fEql .eql 3 false true (.v 1) (.k (.int .i64 1)))) ((zDst (.var 2) (vMv (.l 0))) k))
  (zCond (.v 2) zSkip (zSeq (zReg fun k => (zDst .push (vInt E fEql .eql 3 false true (.v 1) (.k (.int .i64 2)))) ((zDst (.var 2) (vMv (.l 0))) k))
  (zCond (.v 2) zSkip (zSeq (zReg fun k => (zDst .push (vInt E fEql .eql 3 false true (.v 1) (.k (.int .i64 3)))) ((zDst (.var 2) (vMv (.l 0))) k))
  (zCond (.v 2) zSkip (zSeq (zReg fun k => (zDst .push (vInt E fEql .eql 3 false true (.v 1) (.k (.int .i64 6)))) ((zDst (.var 2) (vMv (.l 0))) k))
  (zCond (.v 2) zSkip (zReg fun k => (zDst .push (vInt E fEql .eql 3 false true (.v 1) (.k (.int .i64 7)))) ((zDst (.var 2) (vMv (.l 0))) k))))))))))
  (zCond (.v 2) (zSeq (zReg fun k => (zDst (.var 4) (vMv (.k (.int .i64 0)))) k)
  zRet) (zSeq (zSeq (zReg fun k => (zDst .push (vInt E fEql .eql 3 false true (.v 1) (.k (.int .i64 4)))) ((zDst (.var 3) (vMv (.l 0))) k))
  (zCond (.v 3) zSkip (zReg fun k => (zDst .push (vInt E fEql .eql 3 false true (.v 1) (.k (.int .i64 8)))) ((zDst (.var 3) (vMv (.l 0))) k))))
  (zCond (.v 3) (zSeq (zReg fun k => (zDst (.var 4) (vMv (.k (.int .i64 1)))) k)
  zRet) (zSeq (zReg fun k => (zDst .push (vInt E fEql .eql 3 false true (.v 1) (.k (.int .i64 5)))) ((zDst .push (vMv (.l 0))) k))
  (zCond (.l 0) (zSeq (zReg fun k => (zDst (.var 4) (vMv (.k (.int .i64 2)))) k)
  zRet) zSkip))))))))
  (zSeq (zReg fun k => (zDst (.var 4) (vMv (.k (.int .i64 (-1))))) k)
  zRet))), [.tmp (.v 4)]⟩
theorem G38_ok (fn : Nat → Option Func) (pu : Nat → Bool) (pr : Nat → List AV → Option (Heap → Option (Eff × Acc))) : ZOk ⟨Tryz.tyT, fn, pu, pr⟩ npT F38 (G38 ⟨Tryz.tyT, fn, pu, pr⟩) := ⟨rfl, rfl, rfl, fun cy Y k => by kernel_rfl⟩
noncomputable def F39 : FFn := ⟨18, [0, 9, 8, 7, 1, 6, 4], (.seq (.reg [⟨.mv (.k (.bool false)), (.var 6), none, true, 0, none⟩]) (.seq (.seq (.reg [⟨.mv (.v 0), (.var 3), none, true, 0, none⟩,
    ⟨.len 23 (.v 3), (.var 2), none, false, 1, none⟩,
    ⟨.mv (.k (.int .i64 0)), (.var 1), none, true, 2, none⟩]) (.block 0 (.loop (.seq (.reg [⟨.bin .lss 3 false false (.v 1) (.v 2), .push, none, false, 0, none⟩]) (.seq (.cond (.l 0) .skip (.exit 0)) (.seq (.block 1 (.seq (.reg [⟨.indexAddr 23 (.v 3) (.v 1), .push, none, true, 0, none⟩,
    ⟨.load 25 (.l 0), .push, none, true, 1, none⟩,
    ⟨.alloc 25, (.var 5), none, false, 2, (some 0)⟩,
    ⟨.store 25 (.v 5) (.l 0), .none, none, false, 3, none⟩]) (.seq (.reg [⟨.load 25 (.v 5), .push, none, true, 1, none⟩,
    ⟨.callv (.v 4) [(.l 0)], .push, none, false, 2, (some 0)⟩,
    ⟨.un .not (.l 0), .push, none, false, 3, none⟩]) (.cond (.l 0) (.seq (.reg [⟨.mv (.k (.bool false)), (.var 6), none, true, 0, none⟩]) .ret) .skip)))) (.reg [⟨.bin .add 3 false true (.v 1) (.k (.int .i64 1)), .push, none, false, 0, none⟩,
    ⟨.mv (.l 0), (.var 1), none, true, 1, none⟩]))))))) (.seq (.reg [⟨.mv (.k (.bool true)), (.var 6), none, true, 0, none⟩]) .ret))), [.tmp (.v 6)]⟩
noncomputable def G39 (E : Env) : ZFn := ⟨18, [0, 9, 8, 7, 1, 6, 4], fun cy Y fuel =>
  (zSeq (zReg fun k => (zDst (.var 6) (vMv (.k (.bool false)))) k)
  (zSeq (zSeq (zReg fun k => (zDst (.var 3) (vMv (.v 0))) ((zDst (.var 2) (vLenL (.v 3))) ((zDst (.var 1) (vMv (.k (.int .i64 0)))) k)))
  (zBlock 0 (zLoop fuel (zSeq (zReg fun k => (zDst .push (vInt E fLss .lss 3 false false (.v 1) (.v 2))) k)
  (zSeq (zCond (.l 0) zSkip (zExit 0))
  (zSeq (zBlock 1 (zSeq (zReg fun k => (zDst .push (vIndexAddr 2 (.v 3) (.v 1))) ((zDstW .push (wLoad 2 true (.l 0))) ((zStep E (cy Y) ⟨.alloc 25, (.var 5), none, false, 2, (some 0)⟩) ((zStep E (cy Y) ⟨.store 25 (.v 5) (.l 0), .none, none, false, 3, none⟩) k))))
  (zSeq (zReg fun k => (zDstW .push (wLoad 2 true (.v 5))) ((zStep E (cy Y) ⟨.callv (.v 4) [(.l 0)], .push, none, false, 2, (some 0)⟩) ((zDst .push (vNot (.l 0))) k)))
  (zCond (.l 0) (zSeq (zReg fun k => (zDst (.var 6) (vMv (.k (.bool false)))) k)
  zRet) zSkip))))
  (zReg fun k => (zDst .push (vInt E fAdd .add 3 false true (.v 1) (.k (.int .i64 1)))) ((zDst (.var 1) (vMv (.l 0))) k))))))))
  (zSeq (zReg fun k => (zDst (.var 6) (vMv (.k (.bool true)))) k)
  zRet))), [.tmp (.v 6)]⟩
theorem G39_ok (fn : Nat → Option Func) (pu : Nat → Bool) (pr : Nat → List AV → Option (Heap → Option (Eff × Acc))) : ZOk ⟨Tryz.tyT, fn, pu, pr⟩ npT F39 (G39 ⟨Tryz.tyT, fn, pu, pr⟩) := ⟨rfl, rfl, rfl, fun cy Y k => by kernel_rfl⟩
noncomputable def F40 : FFn := ⟨8, [0, 2, 1, 3], (.seq (.reg [⟨.box 25 (.v 0), (.var 1), none, false, 0, (some 0)⟩,
    ⟨.mv (.k (.bool false)), (.var 3), none, true, 1, none⟩]) (.seq (.reg [⟨.load 25 (.v 1), .push, none, true, 0, none⟩,
    ⟨.load 3 (.v 2), .push, none, true, 1, none⟩,
    ⟨.bin .sub 3 false true (.l 0) (.k (.int .i64 1)), .push, none, false, 2, none⟩,
    ⟨.call 22 [(.l 2), (.l 0)], .push, none, false, 3, (some 0)⟩,
    ⟨.mv (.l 0), (.var 3), none, true, 4, none⟩]) .ret)), [.tmp (.v 3)]⟩
noncomputable def G40 (E : Env) : ZFn := ⟨8, [0, 2, 1, 3], fun cy Y fuel =>
  (zSeq (zReg fun k => (zStep E (cy Y) ⟨.box 25 (.v 0), (.var 1), none, false, 0, (some 0)⟩) ((zDst (.var 3) (vMv (.k (.bool false)))) k))
  (zSeq (zReg fun k => (zDstW .push (wLoad 2 true (.v 1))) ((zDstW .push (wLoad 1 false (.v 2))) ((zDst .push (vInt E fSub .sub 3 false true (.l 0) (.k (.int .i64 1)))) ((zCall (cy Y) 22 [(.l 2), (.l 0)] .push) ((zDst (.var 3) (vMv (.l 0))) k)))))
  zRet)), [.tmp (.v 3)]⟩
theorem G40_ok (fn : Nat → Option Func) (pu : Nat → Bool) (pr : Nat → List AV → Option (Heap → Option (Eff × Acc))) : ZOk ⟨Tryz.tyT, fn, pu, pr⟩ npT F40 (G40 ⟨Tryz.tyT, fn, pu, pr⟩) := ⟨rfl, rfl, rfl, fun cy Y k => by kernel_rfl⟩
noncomputable def F41 : FFn := ⟨19, [0, 8, 7, 1, 5, 4], (.seq (.reg [⟨.mv (.k (.int .i64 0)), (.var 5), none, true, 0, none⟩]) (.seq (.seq (.reg [⟨.len 27 (.v 0), (.var 2), none, false, 1, none⟩,
    ⟨.mv (.k (.int .i64 0)), (.var 1), none, true, 2, none⟩]) (.block 0 (.loop (.seq (.reg [⟨.bin .lss 3 false false (.v 1) (.v 2), .push, none, false, 0, none⟩]) (.seq (.cond (.l 0) .skip (.exit 0)) (.seq (.block 1 (.seq (.reg [⟨.mv (.v 1), (.var 4), none, true, 1, none⟩]) (.seq (.reg [⟨.indexAddr 27 (.v 0) (.v 4), .push, none, true, 3, none⟩,
    ⟨.load 9 (.l 0), .push, none, true, 4, none⟩,
    ⟨.callv (.v 3) [(.l 0)], .push, none, false, 5, (some 0)⟩]) (.cond (.l 0) (.seq (.reg [⟨.mv (.v 4), (.var 5), none, true, 1, none⟩]) .ret) .skip)))) (.reg [⟨.bin .add 3 false true (.v 1) (.k (.int .i64 1)), .push, none, false, 0, none⟩,
    ⟨.mv (.l 0), (.var 1), none, true, 1, none⟩]))))))) (.seq (.reg [⟨.mv (.k (.int .i64 (-1))), (.var 5), none, true, 0, none⟩]) .ret))), [.tmp (.v 5)]⟩
noncomputable def G41 (E : Env) : ZFn := ⟨19, [0, 8, 7, 1, 5, 4], fun cy Y fuel =>
  (zSeq (zReg fun k => (zDst (.var 5) (vMv (.k (.int .i64 0)))) k)
  (zSeq (zSeq (zReg fun k => (zDst (.var 2) (vLenL (.v 0))) ((zDst (.var 1) (vMv (.k (.int .i64 0)))) k))
  (zBlock 0 (zLoop fuel (zSeq (zReg fun k => (zDst .push (vInt E fLss .lss 3 false false (.v 1) (.v 2))) k)
  (zSeq (zCond (.l 0) zSkip (zExit 0))
  (zSeq (zBlock 1 (zSeq (zReg fun k => (zDst (.var 4) (vMv (.v 1))) k)
  (zSeq (zReg fun k => (zDst .push (vIndexAddr 1 (.v 0) (.v 4))) ((zDstW .push (wLoad 1 false (.l 0))) ((zStep E (cy Y) ⟨.callv (.v 3) [(.l 0)], .push, none, false, 5, (some 0)⟩) k)))
  (zCond (.l 0) (zSeq (zReg fun k => (zDst (.var 5) (vMv (.v 4))) k)
  zRet) zSkip))))
  (zReg fun k => (zDst .push (vInt E fAdd .add 3 false true (.v 1) (.k (.int .i64 1)))) ((zDst (.var 1) (vMv (.l 0))) k))))))))
  (zSeq (zReg fun k => (zDst (.var 5) (vMv (.k (.int .i64 (-1))))) k)
  zRet))), [.tmp (.v 5)]⟩
theorem G41_ok (fn : Nat → Option Func) (pu : Nat → Bool) (pr : Nat → List AV → Option (Heap → Option (Eff × Acc))) : ZOk ⟨Tryz.tyT, fn, pu, pr⟩ npT F41 (G41 ⟨Tryz.tyT, fn, pu, pr⟩) := ⟨rfl, rfl, rfl, fun cy Y k => by kernel_rfl⟩
noncomputable def F42 : FFn := ⟨11, [0, 1, 2, 6], (.seq (.reg [⟨.alloc 87, (.var 3), none, false, 0, (some 0)⟩]) (.seq (.reg [⟨.build 87 [(0, (.v 0)), (1, (.v 1)), (2, (.v 2))], .push, none, false, 3, none⟩,
    ⟨.store 87 (.v 3) (.l 0), .none, none, false, 4, none⟩]) .ret)), [.cell (.v 3) 87]⟩
noncomputable def G42 (E : Env) : ZFn := ⟨11, [0, 1, 2, 6], fun cy Y fuel =>
  (zSeq (zReg fun k => (zStep E (cy Y) ⟨.alloc 87, (.var 3), none, false, 0, (some 0)⟩) k)
  (zSeq (zReg fun k => (zStep E (cy Y) ⟨.build 87 [(0, (.v 0)), (1, (.v 1)), (2, (.v 2))], .push, none, false, 3, none⟩) ((zStep E (cy Y) ⟨.store 87 (.v 3) (.l 0), .none, none, false, 4, none⟩) k))
  zRet)), [.cell (.v 3) 87]⟩
theorem G42_ok (fn : Nat → Option Func) (pu : Nat → Bool) (pr : Nat → List AV → Option (Heap → Option (Eff × Acc))) : ZOk ⟨Tryz.tyT, fn, pu, pr⟩ npT F42 (G42 ⟨Tryz.tyT, fn, pu, pr⟩) := ⟨rfl, rfl, rfl, fun cy Y k => by kernel_rfl⟩
noncomputable def F44 : FFn := ⟨19, [0, 8, 7, 1, 5, 4], (.seq (.reg [⟨.mv (.k (.int .i64 0)), (.var 5), none, true, 0, none⟩]) (.seq (.seq (.reg [⟨.len 29 (.v 0), (.var 2), none, false, 1, none⟩,
    ⟨.mv (.k (.int .i64 0)), (.var 1), none, true, 2, none⟩]) (.block 0 (.loop (.seq (.reg [⟨.bin .lss 3 false false (.v 1) (.v 2), .push, none, false, 0, none⟩]) (.seq (.cond (.l 0) .skip (.exit 0)) (.seq (.block 1 (.seq (.reg [⟨.mv (.v 1), (.var 4), none, true, 1, none⟩]) (.seq (.reg [⟨.indexAddr 29 (.v 0) (.v 4), .push, none, true, 3, none⟩,
    ⟨.load 41 (.l 0), .push, none, true, 4, none⟩,
    ⟨.callv (.v 3) [(.l 0)], .push, none, false, 5, (some 0)⟩]) (.cond (.l 0) (.seq (.reg [⟨.mv (.v 4), (.var 5), none, true, 1, none⟩]) .ret) .skip)))) (.reg [⟨.bin .add 3 false true (.v 1) (.k (.int .i64 1)), .push, none, false, 0, none⟩,
    ⟨.mv (.l 0), (.var 1), none, true, 1, none⟩]))))))) (.seq (.reg [⟨.mv (.k (.int .i64 (-1))), (.var 5), none, true, 0, none⟩]) .ret))), [.tmp (.v 5)]⟩
noncomputable def G44 (E : Env) : ZFn := ⟨19, [0, 8, 7, 1, 5, 4], fun cy Y fuel =>
  (zSeq (zReg fun k => (zDst (.var 5) (vMv (.k (.int .i64 0)))) k)
  (zSeq (zSeq (zReg fun k => (zDst (.var 2) (vLenL (.v 0))) ((zDst (.var 1) (vMv (.k (.int .i64 0)))) k))
  (zBlock 0 (zLoop fuel (zSeq (zReg fun k => (zDst .push (vInt E fLss .lss 3 false false (.v 1) (.v 2))) k)
  (zSeq (zCond (.l 0) zSkip (zExit 0))
  (zSeq (zBlock 1 (zSeq (zReg fun k => (zDst (.var 4) (vMv (.v 1))) k)
  (zSeq (zReg fun k => (zDst .push (vIndexAddr 1 (.v 0) (.v 4))) ((zDstW .push (wLoad 1 false (.l 0))) ((zStep E (cy Y) ⟨.callv (.v 3) [(.l 0)], .push, none, false, 5, (some 0)⟩) k)))
  (zCond (.l 0) (zSeq (zReg fun k => (zDst (.var 5) (vMv (.v 4))) k)
  zRet) zSkip))))
  (zReg fun k => (zDst .push (vInt E fAdd .add 3 false true (.v 1) (.k (.int .i64 1)))) ((zDst (.var 1) (vMv (.l 0))) k))))))))
  (zSeq (zReg fun k => (zDst (.var 5) (vMv (.k (.int .i64 (-1))))) k)
  zRet))), [.tmp (.v 5)]⟩
theorem G44_ok (fn : Nat → Option Func) (pu : Nat → Bool) (pr : Nat → List AV → Option (Heap → Option (Eff × Acc))) : ZOk ⟨Tryz.tyT, fn, pu, pr⟩ npT F44 (G44 ⟨Tryz.tyT, fn, pu, pr⟩) := ⟨rfl, rfl, rfl, fun cy Y k => by kernel_rfl⟩
noncomputable def F46 : FFn := ⟨11, [0, 2], (.seq (.reg [⟨.len 27 (.v 0), .push, none, false, 1, none⟩,
    ⟨.mv (.l 0), (.var 1), none, true, 2, none⟩]) (.reg [⟨.conv 3 101 (.v 1), .push, none, false, 3, none⟩,
    ⟨.call 59 [(.l 0)], .push, none, false, 4, (some 0)⟩,
    ⟨.call 58 [(.v 0), (.k (.int .i64 0)), (.v 1), (.l 0)], .push, none, false, 5, (some 1)⟩])), []⟩
noncomputable def G46 (E : Env) : ZFn := ⟨11, [0, 2], fun cy Y fuel =>
  (zSeq (zReg fun k => (zDst .push (vLenL (.v 0))) ((zDst (.var 1) (vMv (.l 0))) k))
  (zReg fun k => (zDst .push (vConv .u64 (.v 1))) ((zCall (cy Y) 59 [(.l 0)] .push) ((zCall (cy Y) 58 [(.v 0), (.k (.int .i64 0)), (.v 1), (.l 0)] .push) k)))), []⟩
theorem G46_ok (fn : Nat → Option Func) (pu : Nat → Bool) (pr : Nat → List AV → Option (Heap → Option (Eff × Acc))) : ZOk ⟨Tryz.tyT, fn, pu, pr⟩ npT F46 (G46 ⟨Tryz.tyT, fn, pu, pr⟩) := ⟨rfl, rfl, rfl, fun cy Y k => by kernel_rfl⟩
noncomputable def F47 : FFn := ⟨61, [0, 3, 5, 4, 2], (.seq (.reg [⟨.mv (.k (.sl 0 [] true)), (.var 4), none, true, 0, none⟩]) (.seq (.seq (.reg [⟨.len 27 (.v 0), .push, none, false, 1, none⟩,
    ⟨.bin .lss 3 false true (.l 0) (.k (.int .i64 2)), .push, none, false, 2, none⟩]) (.cond (.l 0) (.seq (.reg [⟨.mv (.v 0), (.var 4), none, true, 1, none⟩]) .ret) .skip)) (.seq (.seq (.reg [⟨.mv (.k (.int .i64 1)), (.var 1), none, true, 0, none⟩]) (.block 0 (.loop (.seq (.seq (.reg [⟨.len 27 (.v 0), .push, none, false, 2, none⟩,
    ⟨.bin .lss 3 false false (.v 1) (.l 0), .push, none, false, 3, none⟩]) (.cond (.l 0) .skip (.exit 0))) (.seq (.block 1 (.seq (.dreg 0 [0, 0, 3, 7, 0, 0, 32, 112, 240, 511] [⟨.indexAddr 27 (.v 0) (.v 1), .push, none, true, 2, none⟩,
    ⟨.load 9 (.l 0), .push, none, true, 3, none⟩,
    ⟨.bin .sub 3 false true (.v 1) (.k (.int .i64 1)), .push, none, false, 6, none⟩,
    ⟨.indexAddr 27 (.v 0) (.l 0), .push, none, true, 7, none⟩,
    ⟨.load 9 (.l 0), .push, none, true, 8, none⟩,
    ⟨.bin .eql 9 false false (.l 3) (.l 0), .push, none, false, 9, none⟩]) (.cond (.l 0) (.seq (.reg [⟨.slice 27 (.v 0) (some (.v 1)) none none, .push, none, false, 2, none⟩,
    ⟨.mv (.l 0), (.var 3), none, true, 3, none⟩]) (.seq (.seq (.reg [⟨.mv (.k (.int .i64 1)), (.var 2), none, true, 0, none⟩]) (.block 2 (.loop (.seq (.seq (.reg [⟨.len 27 (.v 3), .push, none, false, 2, none⟩,
    ⟨.bin .lss 3 false false (.v 2) (.l 0), .push, none, false, 3, none⟩]) (.cond (.l 0) .skip (.exit 2))) (.seq (.block 3 (.seq (.dreg 0 [0, 0, 3, 7, 0, 0, 32, 112, 240, 511] [⟨.indexAddr 27 (.v 3) (.v 2), .push, none, true, 2, none⟩,
    ⟨.load 9 (.l 0), .push, none, true, 3, none⟩,
    ⟨.bin .sub 3 false true (.v 2) (.k (.int .i64 1)), .push, none, false, 6, none⟩,
    ⟨.indexAddr 27 (.v 3) (.l 0), .push, none, true, 7, none⟩,
    ⟨.load 9 (.l 0), .push, none, true, 8, none⟩,
    ⟨.bin .neq 9 false false (.l 3) (.l 0), .push, none, false, 9, none⟩]) (.cond (.l 0) (.seq (.reg [⟨.indexAddr 27 (.v 3) (.v 2), .push, none, true, 4, none⟩,
    ⟨.load 9 (.l 0), .push, none, true, 5, none⟩,
    ⟨.indexAddr 27 (.v 0) (.v 1), .push, none, true, 6, none⟩,
    ⟨.store 9 (.l 0) (.l 1), .none, none, false, 7, none⟩]) (.reg [⟨.mv (.v 1), .push, none, true, 0, none⟩,
    ⟨.bin .add 3 false true (.l 0) (.k (.int .i64 1)), .push, none, false, 1, none⟩,
    ⟨.mv (.l 0), (.var 1), none, true, 2, none⟩])) .skip))) (.reg [⟨.mv (.v 2), .push, none, true, 0, none⟩,
    ⟨.bin .add 3 false true (.l 0) (.k (.int .i64 1)), .push, none, false, 1, none⟩,
    ⟨.mv (.l 0), (.var 2), none, true, 2, none⟩])))))) (.seq (.reg [⟨.slice 27 (.v 0) (some (.v 1)) none none, .push, none, false, 2, none⟩,
    ⟨.ext (.clear 27) [(.l 0)], .none, none, false, 3, none⟩]) (.seq (.reg [⟨.slice 27 (.v 0) none (some (.v 1)) none, .push, none, false, 2, none⟩,
    ⟨.mv (.l 0), (.var 4), none, true, 3, none⟩]) .ret)))) .skip))) (.reg [⟨.mv (.v 1), .push, none, true, 0, none⟩,
    ⟨.bin .add 3 false true (.l 0) (.k (.int .i64 1)), .push, none, false, 1, none⟩,
    ⟨.mv (.l 0), (.var 1), none, true, 2, none⟩])))))) (.seq (.reg [⟨.mv (.v 0), (.var 4), none, true, 1, none⟩]) .ret)))), [.tmp (.v 4)]⟩
noncomputable def G47 (E : Env) : ZFn := ⟨61, [0, 3, 5, 4, 2], fun cy Y fuel =>
  (zSeq (zReg fun k => (zDst (.var 4) (vMv (.k (.sl 0 [] true)))) k)
  (zSeq (zSeq (zReg fun k => (zDst .push (vLenL (.v 0))) ((zDst .push (vInt E fLss .lss 3 false true (.l 0) (.k (.int .i64 2)))) k))
  (zCond (.l 0) (zSeq (zReg fun k => (zDst (.var 4) (vMv (.v 0))) k)
  zRet) zSkip))
  (zSeq (zSeq (zReg fun k => (zDst (.var 1) (vMv (.k (.int .i64 1)))) k)
  (zBlock 0 (zLoop fuel (zSeq (zSeq (zReg fun k => (zDst .push (vLenL (.v 0))) ((zDst .push (vInt E fLss .lss 3 false false (.v 1) (.l 0))) k))
  (zCond (.l 0) zSkip (zExit 0)))
  (zSeq (zBlock 1 (zSeq (zDreg 0 fun n0 k => (fun k sp => zDst .push (vIndexAddr 1 (.v 0) (.v 1)) (k sp)) ((zDstWD [0, 0, 3, 7, 0, 0, 32, 112, 240, 511] 3 .push (wLoad 1 false (.l 0))) ((fun k sp => zDst .push (vInt E fSub .sub 3 false true (.v 1) (.k (.int .i64 1))) (k sp)) ((fun k sp => zDst .push (vIndexAddr 1 (.v 0) (.l 0)) (k sp)) ((zDstWD [0, 0, 3, 7, 0, 0, 32, 112, 240, 511] 8 .push (wLoad 1 false (.l 0))) ((fun k sp => zDst .push (vInt E fEql .eql 9 false false (.l 3) (.l 0)) (k sp)) k))))))
  (zCond (.l 0) (zSeq (zReg fun k => (zStep E (cy Y) ⟨.slice 27 (.v 0) (some (.v 1)) none none, .push, none, false, 2, none⟩) ((zDst (.var 3) (vMv (.l 0))) k))
  (zSeq (zSeq (zReg fun k => (zDst (.var 2) (vMv (.k (.int .i64 1)))) k)
  (zBlock 2 (zLoop fuel (zSeq (zSeq (zReg fun k => (zDst .push (vLenL (.v 3))) ((zDst .push (vInt E fLss .lss 3 false false (.v 2) (.l 0))) k))
  (zCond (.l 0) zSkip (zExit 2)))
  (zSeq (zBlock 3 (zSeq (zDreg 0 fun n0 k => (fun k sp => zDst .push (vIndexAddr 1 (.v 3) (.v 2)) (k sp)) ((zDstWD [0, 0, 3, 7, 0, 0, 32, 112, 240, 511] 3 .push (wLoad 1 false (.l 0))) ((fun k sp => zDst .push (vInt E fSub .sub 3 false true (.v 2) (.k (.int .i64 1))) (k sp)) ((fun k sp => zDst .push (vIndexAddr 1 (.v 3) (.l 0)) (k sp)) ((zDstWD [0, 0, 3, 7, 0, 0, 32, 112, 240, 511] 8 .push (wLoad 1 false (.l 0))) ((fun k sp => zDst .push (vInt E fNeq .neq 9 false false (.l 3) (.l 0)) (k sp)) k))))))
  (zCond (.l 0) (zSeq (zReg fun k => (zDst .push (vIndexAddr 1 (.v 3) (.v 2))) ((zDstW .push (wLoad 1 false (.l 0))) ((zDst .push (vIndexAddr 1 (.v 0) (.v 1))) ((zStep E (cy Y) ⟨.store 9 (.l 0) (.l 1), .none, none, false, 7, none⟩) k))))
  (zReg fun k => (zDst .push (vMv (.v 1))) ((zDst .push (vInt E fAdd .add 3 false true (.l 0) (.k (.int .i64 1)))) ((zDst (.var 1) (vMv (.l 0))) k)))) zSkip)))
  (zReg fun k => (zDst .push (vMv (.v 2))) ((zDst .push (vInt E fAdd .add 3 false true (.l 0) (.k (.int .i64 1)))) ((zDst (.var 2) (vMv (.l 0))) k))))))))
  (zSeq (zReg fun k => (zStep E (cy Y) ⟨.slice 27 (.v 0) (some (.v 1)) none none, .push, none, false, 2, none⟩) ((zStep E (cy Y) ⟨.ext (.clear 27) [(.l 0)], .none, none, false, 3, none⟩) k))
  (zSeq (zReg fun k => (zStep E (cy Y) ⟨.slice 27 (.v 0) none (some (.v 1)) none, .push, none, false, 2, none⟩) ((zDst (.var 4) (vMv (.l 0))) k))
  zRet)))) zSkip)))
  (zReg fun k => (zDst .push (vMv (.v 1))) ((zDst .push (vInt E fAdd .add 3 false true (.l 0) (.k (.int .i64 1)))) ((zDst (.var 1) (vMv (.l 0))) k))))))))
  (zSeq (zReg fun k => (zDst (.var 4) (vMv (.v 0))) k)
  zRet)))), [.tmp (.v 4)]⟩
theorem G47_ok (fn : Nat → Option Func) (pu : Nat → Bool) (pr : Nat → List AV → Option (Heap → Option (Eff × Acc))) : ZOk ⟨Tryz.tyT, fn, pu, pr⟩ npT F47 (G47 ⟨Tryz.tyT, fn, pu, pr⟩) := ⟨rfl, rfl, rfl, fun cy Y k => by kernel_rfl⟩
noncomputable def F54 : FFn := ⟨19, [0, 8, 7, 1, 5, 4], (.seq (.reg [⟨.mv (.k (.int .i64 0)), (.var 5), none, true, 0, none⟩]) (.seq (.seq (.reg [⟨.len 41 (.v 0), (.var 2), none, false, 1, none⟩,
    ⟨.mv (.k (.int .i64 0)), (.var 1), none, true, 2, none⟩]) (.block 0 (.loop (.seq (.reg [⟨.bin .lss 3 false false (.v 1) (.v 2), .push, none, false, 0, none⟩]) (.seq (.cond (.l 0) .skip (.exit 0)) (.seq (.block 1 (.seq (.reg [⟨.mv (.v 1), (.var 4), none, true, 1, none⟩]) (.seq (.reg [⟨.indexAddr 41 (.v 0) (.v 4), .push, none, true, 3, none⟩,
    ⟨.load 45 (.l 0), .push, none, true, 4, none⟩,
    ⟨.callv (.v 3) [(.l 0)], .push, none, false, 5, (some 0)⟩]) (.cond (.l 0) (.seq (.reg [⟨.mv (.v 4), (.var 5), none, true, 1, none⟩]) .ret) .skip)))) (.reg [⟨.bin .add 3 false true (.v 1) (.k (.int .i64 1)), .push, none, false, 0, none⟩,
    ⟨.mv (.l 0), (.var 1), none, true, 1, none⟩]))))))) (.seq (.reg [⟨.mv (.k (.int .i64 (-1))), (.var 5), none, true, 0, none⟩]) .ret))), [.tmp (.v 5)]⟩
noncomputable def G54 (E : Env) : ZFn := ⟨19, [0, 8, 7, 1, 5, 4], fun cy Y fuel =>
  (zSeq (zReg fun k => (zDst (.var 5) (vMv (.k (.int .i64 0)))) k)
  (zSeq (zSeq (zReg fun k => (zDst (.var 2) (vLenL (.v 0))) ((zDst (.var 1) (vMv (.k (.int .i64 0)))) k))
  (zBlock 0 (zLoop fuel (zSeq (zReg fun k => (zDst .push (vInt E fLss .lss 3 false false (.v 1) (.v 2))) k)
  (zSeq (zCond (.l 0) zSkip (zExit 0))
  (zSeq (zBlock 1 (zSeq (zReg fun k => (zDst (.var 4) (vMv (.v 1))) k)
  (zSeq (zReg fun k => (zDst .push (vIndexAddr 2 (.v 0) (.v 4))) ((zDstW .push (wLoad 2 true (.l 0))) ((zStep E (cy Y) ⟨.callv (.v 3) [(.l 0)], .push, none, false, 5, (some 0)⟩) k)))
  (zCond (.l 0) (zSeq (zReg fun k => (zDst (.var 5) (vMv (.v 4))) k)
  zRet) zSkip))))
  (zReg fun k => (zDst .push (vInt E fAdd .add 3 false true (.v 1) (.k (.int .i64 1)))) ((zDst (.var 1) (vMv (.l 0))) k))))))))
  (zSeq (zReg fun k => (zDst (.var 5) (vMv (.k (.int .i64 (-1))))) k)
  zRet))), [.tmp (.v 5)]⟩
theorem G54_ok (fn : Nat → Option Func) (pu : Nat → Bool) (pr : Nat → List AV → Option (Heap → Option (Eff × Acc))) : ZOk ⟨Tryz.tyT, fn, pu, pr⟩ npT F54 (G54 ⟨Tryz.tyT, fn, pu, pr⟩) := ⟨rfl, rfl, rfl, fun cy Y k => by kernel_rfl⟩
noncomputable def F55 : FFn := ⟨53, [1, 8, 2, 9, 3, 0], (.seq (.reg [⟨.bin .add 3 false true (.v 0) (.k (.int .i64 1)), .push, none, false, 1, none⟩,
    ⟨.mv (.l 0), (.var 1), none, true, 2, none⟩]) (.block 0 (.loop (.seq (.seq (.reg [⟨.bin .lss 3 false false (.v 1) (.v 2), .push, none, false, 2, none⟩]) (.cond (.l 0) .skip (.exit 0))) (.seq (.block 1 (.seq (.reg [⟨.mv (.v 1), (.var 3), none, true, 1, none⟩]) (.block 2 (.loop (.seq (.seq (.dreg 1 [0, 0, 3, 7, 15, 15, 15, 111, 239, 15, 15, 1039, 3599, 7695, 16383, 32767, 65535] [⟨.bin .gtr 3 false false (.v 3) (.v 0), .push, none, false, 2, none⟩,
    ⟨.mv (.v 4), .push, (some ((.l 0), true)), true, 4, none⟩,
    ⟨.mv (.v 5), .push, (some ((.l 1), true)), true, 5, none⟩,
    ⟨.mv (.v 3), .push, (some ((.l 2), true)), true, 6, none⟩,
    ⟨.indexAddr 41 (.l 1) (.l 0), .push, (some ((.l 3), true)), true, 7, none⟩,
    ⟨.load 45 (.l 0), .push, (some ((.l 4), true)), true, 8, none⟩,
    ⟨.mv (.v 5), .push, (some ((.l 5), true)), true, 9, none⟩,
    ⟨.mv (.v 3), .push, (some ((.l 6), true)), true, 10, none⟩,
    ⟨.bin .sub 3 false true (.l 0) (.k (.int .i64 1)), .push, (some ((.l 7), true)), false, 11, none⟩,
    ⟨.indexAddr 41 (.l 2) (.l 0), .push, (some ((.l 8), true)), true, 12, none⟩,
    ⟨.load 45 (.l 0), .push, (some ((.l 9), true)), true, 13, none⟩,
    ⟨.callv (.l 9) [(.l 5), (.l 0)], .push, (some ((.l 10), true)), false, 14, (some 0)⟩,
    ⟨.bin .lss 3 false true (.l 0) (.k (.int .i64 0)), .push, (some ((.l 11), true)), false, 15, none⟩,
    ⟨.pick (.l 12) (.l 0) (.k (.bool false)), .push, none, true, 16, none⟩]) (.cond (.l 0) .skip (.exit 2))) (.seq (.block 3 (.dreg 0 [0, 0, 0, 0, 8, 0, 0, 64, 224, 480, 0, 0, 3072, 7168, 16355, 32739, 65535, 131071] [⟨.bin .sub 3 false true (.v 3) (.k (.int .i64 1)), .push, none, false, 4, none⟩,
    ⟨.bin .sub 3 false true (.v 3) (.k (.int .i64 1)), .push, none, false, 7, none⟩,
    ⟨.indexAddr 41 (.v 5) (.l 0), .push, none, true, 8, none⟩,
    ⟨.load 45 (.l 0), .push, none, true, 9, none⟩,
    ⟨.indexAddr 41 (.v 5) (.v 3), .push, none, true, 12, none⟩,
    ⟨.load 45 (.l 0), .push, none, true, 13, none⟩,
    ⟨.indexAddr 41 (.v 5) (.v 3), .push, none, true, 14, none⟩,
    ⟨.store 45 (.l 0) (.l 3), .none, none, false, 15, none⟩,
    ⟨.indexAddr 41 (.v 5) (.l 6), .push, none, true, 16, none⟩,
    ⟨.store 45 (.l 0) (.l 2), .none, none, false, 17, none⟩])) (.reg [⟨.mv (.v 3), .push, none, true, 0, none⟩,
    ⟨.bin .sub 3 false true (.l 0) (.k (.int .i64 1)), .push, none, false, 1, none⟩,
    ⟨.mv (.l 0), (.var 3), none, true, 2, none⟩]))))))) (.reg [⟨.mv (.v 1), .push, none, true, 0, none⟩,
    ⟨.bin .add 3 false true (.l 0) (.k (.int .i64 1)), .push, none, false, 1, none⟩,
    ⟨.mv (.l 0), (.var 1), none, true, 2, none⟩])))))), []⟩
noncomputable def G55 (E : Env) : ZFn := ⟨53, [1, 8, 2, 9, 3, 0], fun cy Y fuel =>
  (zSeq (zReg fun k => (zDst .push (vInt E fAdd .add 3 false true (.v 0) (.k (.int .i64 1)))) ((zDst (.var 1) (vMv (.l 0))) k))
  (zBlock 0 (zLoop fuel (zSeq (zSeq (zReg fun k => (zDst .push (vInt E fLss .lss 3 false false (.v 1) (.v 2))) k)
  (zCond (.l 0) zSkip (zExit 0)))
  (zSeq (zBlock 1 (zSeq (zReg fun k => (zDst (.var 3) (vMv (.v 1))) k)
  (zBlock 2 (zLoop fuel (zSeq (zSeq (zDreg 1 fun n0 k => (fun k sp => zDst .push (vInt E fGtr .gtr 3 false false (.v 3) (.v 0)) (k sp)) ((zGD (.l 0) true .push (fun k sp => zDst .push (vMv (.v 4)) (k sp))) ((zGD (.l 1) true .push (fun k sp => zDst .push (vMv (.v 5)) (k sp))) ((zGD (.l 2) true .push (fun k sp => zDst .push (vMv (.v 3)) (k sp))) ((zGD (.l 3) true .push (fun k sp => zDst .push (vIndexAddr 2 (.l 1) (.l 0)) (k sp))) ((zGD (.l 4) true .push (zDstWD [0, 0, 3, 7, 15, 15, 15, 111, 239, 15, 15, 1039, 3599, 7695, 16383, 32767, 65535] 8 .push (wLoad 2 true (.l 0)))) ((zGD (.l 5) true .push (fun k sp => zDst .push (vMv (.v 5)) (k sp))) ((zGD (.l 6) true .push (fun k sp => zDst .push (vMv (.v 3)) (k sp))) ((zGD (.l 7) true .push (fun k sp => zDst .push (vInt E fSub .sub 3 false true (.l 0) (.k (.int .i64 1))) (k sp))) ((zGD (.l 8) true .push (fun k sp => zDst .push (vIndexAddr 2 (.l 2) (.l 0)) (k sp))) ((zGD (.l 9) true .push (zDstWD [0, 0, 3, 7, 15, 15, 15, 111, 239, 15, 15, 1039, 3599, 7695, 16383, 32767, 65535] 13 .push (wLoad 2 true (.l 0)))) ((zGD (.l 10) true .push (zStepD E (cy Y) [0, 0, 3, 7, 15, 15, 15, 111, 239, 15, 15, 1039, 3599, 7695, 16383, 32767, 65535] n0 ⟨.callv (.l 9) [(.l 5), (.l 0)], .push, none, false, 14, (some 0)⟩)) ((zGD (.l 11) true .push (fun k sp => zDst .push (vInt E fLss .lss 3 false true (.l 0) (.k (.int .i64 0))) (k sp))) ((fun k sp => zDst .push (vPick (.l 12) (.l 0) (.k (.bool false))) (k sp)) k))))))))))))))
  (zCond (.l 0) zSkip (zExit 2)))
  (zSeq (zBlock 3 (zDreg 0 fun n0 k => (fun k sp => zDst .push (vInt E fSub .sub 3 false true (.v 3) (.k (.int .i64 1))) (k sp)) ((fun k sp => zDst .push (vInt E fSub .sub 3 false true (.v 3) (.k (.int .i64 1))) (k sp)) ((fun k sp => zDst .push (vIndexAddr 2 (.v 5) (.l 0)) (k sp)) ((zDstWD [0, 0, 0, 0, 8, 0, 0, 64, 224, 480, 0, 0, 3072, 7168, 16355, 32739, 65535, 131071] 9 .push (wLoad 2 true (.l 0))) ((fun k sp => zDst .push (vIndexAddr 2 (.v 5) (.v 3)) (k sp)) ((zDstWD [0, 0, 0, 0, 8, 0, 0, 64, 224, 480, 0, 0, 3072, 7168, 16355, 32739, 65535, 131071] 13 .push (wLoad 2 true (.l 0))) ((fun k sp => zDst .push (vIndexAddr 2 (.v 5) (.v 3)) (k sp)) ((zStepD E (cy Y) [0, 0, 0, 0, 8, 0, 0, 64, 224, 480, 0, 0, 3072, 7168, 16355, 32739, 65535, 131071] n0 ⟨.store 45 (.l 0) (.l 3), .none, none, false, 15, none⟩) ((fun k sp => zDst .push (vIndexAddr 2 (.v 5) (.l 6)) (k sp)) ((zStepD E (cy Y) [0, 0, 0, 0, 8, 0, 0, 64, 224, 480, 0, 0, 3072, 7168, 16355, 32739, 65535, 131071] n0 ⟨.store 45 (.l 0) (.l 2), .none, none, false, 17, none⟩) k)))))))))))
  (zReg fun k => (zDst .push (vMv (.v 3))) ((zDst .push (vInt E fSub .sub 3 false true (.l 0) (.k (.int .i64 1)))) ((zDst (.var 3) (vMv (.l 0))) k)))))))))
  (zReg fun k => (zDst .push (vMv (.v 1))) ((zDst .push (vInt E fAdd .add 3 false true (.l 0) (.k (.int .i64 1)))) ((zDst (.var 1) (vMv (.l 0))) k)))))))), []⟩
theorem G55_ok (fn : Nat → Option Func) (pu : Nat → Bool) (pr : Nat → List AV → Option (Heap → Option (Eff × Acc))) : ZOk ⟨Tryz.tyT, fn, pu, pr⟩ npT F55 (G55 ⟨Tryz.tyT, fn, pu, pr⟩) := ⟨rfl, rfl, rfl, fun cy Y k => by kernel_rfl⟩
noncomputable def F58 : FFn := ⟨134, [2, 1, 10, 0, 3, 8, 12, 11, 9, 13, 15, 14, 16, 17, 18], (.seq (.reg [⟨.mv (.k (.bool true)), (.var 5), none, true, 0, none⟩]) (.seq (.reg [⟨.mv (.k (.bool true)), (.var 8), none, true, 0, none⟩]) (.block 0 (.loop (.block 1 (.seq (.reg [⟨.bin .sub 3 false false (.v 0) (.v 1), .push, none, false, 2, none⟩,
    ⟨.mv (.l 0), (.var 2), none, true, 3, none⟩]) (.seq (.seq (.reg [⟨.bin .leq 3 false true (.v 2) (.k (.int .i64 12)), .push, none, false, 1, none⟩]) (.cond (.l 0) (.seq (.reg [⟨.call 74 [(.v 3), (.v 1), (.v 0)], .push, none, false, 3, (some 0)⟩]) .ret) .skip)) (.seq (.seq (.reg [⟨.bin .eql 3 false true (.v 4) (.k (.int .i64 0)), .push, none, false, 1, none⟩]) (.cond (.l 0) (.seq (.reg [⟨.call 75 [(.v 3), (.v 1), (.v 0)], .push, none, false, 3, (some 0)⟩]) .ret) .skip)) (.seq (.seq (.reg [⟨.un .not (.v 5), .push, none, false, 1, none⟩]) (.cond (.l 0) (.seq (.reg [⟨.call 76 [(.v 3), (.v 1), (.v 0)], .push, none, false, 3, (some 0)⟩]) (.reg [⟨.mv (.v 4), .push, none, true, 0, none⟩,
    ⟨.bin .sub 3 false true (.l 0) (.k (.int .i64 1)), .push, none, false, 1, none⟩,
    ⟨.mv (.l 0), (.var 4), none, true, 2, none⟩])) .skip)) (.seq (.reg [⟨.call 77 [(.v 3), (.v 1), (.v 0)], .push, none, false, 3, (some 0)⟩,
    ⟨.extract (.l 0) 0, .push, none, true, 5, none⟩,
    ⟨.extract (.l 1) 1, .push, none, true, 6, none⟩,
    ⟨.mv (.l 1), (.var 7), none, true, 7, none⟩,
    ⟨.mv (.l 0), (.var 6), none, true, 8, none⟩]) (.seq (.seq (.reg [⟨.bin .eql 111 false true (.v 6) (.k (.int .i64 2)), .push, none, false, 1, none⟩]) (.cond (.l 0) (.seq (.reg [⟨.call 78 [(.v 3), (.v 1), (.v 0)], .push, none, false, 3, (some 0)⟩]) (.seq (.reg [⟨.bin .sub 3 false true (.v 0) (.k (.int .i64 1)), .push, none, false, 1, none⟩,
    ⟨.mv (.v 7), .push, none, true, 2, none⟩,
    ⟨.bin .sub 3 false false (.l 0) (.v 1), .push, none, false, 4, none⟩,
    ⟨.bin .sub 3 false false (.l 2) (.l 0), .push, none, false, 5, none⟩,
    ⟨.mv (.l 0), (.var 7), none, true, 6, none⟩]) (.reg [⟨.mv (.k (.int .i64 1)), (.var 6), none, true, 0, none⟩]))) .skip)) (.seq (.seq (.reg [⟨.mv (.v 8), .push, (some ((.v 5), true)), true, 2, none⟩,
    ⟨.pick (.v 5) (.l 0) (.k (.bool false)), .push, none, true, 3, none⟩,
    ⟨.mv (.v 6), .push, (some ((.l 0), true)), true, 5, none⟩,
    ⟨.bin .eql 111 false true (.l 0) (.k (.int .i64 1)), .push, (some ((.l 1), true)), false, 6, none⟩,
    ⟨.pick (.l 2) (.l 0) (.k (.bool false)), .push, none, true, 7, none⟩]) (.cond (.l 0) (.seq (.reg [⟨.call 79 [(.v 3), (.v 1), (.v 0)], .push, none, false, 3, (some 0)⟩]) (.cond (.l 0) .ret .skip)) .skip)) (.seq (.seq (.dreg 1 [0, 1, 3, 7, 7, 23, 63, 127, 7, 7, 775, 1799, 4095, 8191, 16383] [⟨.bin .gtr 3 false true (.v 1) (.k (.int .i64 0)), .push, none, false, 1, none⟩,
    ⟨.mv (.v 3), .push, (some ((.l 0), true)), true, 3, none⟩,
    ⟨.mv (.v 1), .push, (some ((.l 1), true)), true, 4, none⟩,
    ⟨.bin .sub 3 false true (.l 0) (.k (.int .i64 1)), .push, (some ((.l 2), true)), false, 5, none⟩,
    ⟨.indexAddr 27 (.l 2) (.l 0), .push, (some ((.l 3), true)), true, 6, none⟩,
    ⟨.load 9 (.l 0), .push, (some ((.l 4), true)), true, 7, none⟩,
    ⟨.mv (.v 3), .push, (some ((.l 5), true)), true, 8, none⟩,
    ⟨.mv (.v 7), .push, (some ((.l 6), true)), true, 9, none⟩,
    ⟨.indexAddr 27 (.l 1) (.l 0), .push, (some ((.l 7), true)), true, 10, none⟩,
    ⟨.load 9 (.l 0), .push, (some ((.l 8), true)), true, 11, none⟩,
    ⟨.call 80 [(.l 4), (.l 0)], .push, (some ((.l 9), true)), false, 12, (some 0)⟩,
    ⟨.un .not (.l 0), .push, (some ((.l 10), true)), false, 13, none⟩,
    ⟨.pick (.l 11) (.l 0) (.k (.bool false)), .push, none, true, 14, none⟩]) (.cond (.l 0) (.seq (.reg [⟨.call 81 [(.v 3), (.v 1), (.v 0), (.v 7)], .push, none, false, 4, (some 0)⟩,
    ⟨.mv (.l 0), (.var 9), none, true, 5, none⟩]) (.seq (.reg [⟨.mv (.v 9), (.var 1), none, true, 1, none⟩]) (.exit 1))) .skip)) (.seq (.reg [⟨.call 82 [(.v 3), (.v 1), (.v 0), (.v 7)], .push, none, false, 4, (some 0)⟩,
    ⟨.extract (.l 0) 0, .push, none, true, 6, none⟩,
    ⟨.extract (.l 1) 1, .push, none, true, 7, none⟩,
    ⟨.mv (.l 1), (.var 11), none, true, 8, none⟩,
    ⟨.mv (.l 0), (.var 10), none, true, 9, none⟩]) (.seq (.reg [⟨.mv (.v 10), (.var 8), none, true, 1, none⟩]) (.seq (.reg [⟨.bin .sub 3 false false (.v 11) (.v 1), .push, none, false, 2, none⟩,
    ⟨.bin .sub 3 false false (.v 0) (.v 11), .push, none, false, 5, none⟩,
    ⟨.mv (.l 1), (.var 12), none, true, 6, none⟩,
    ⟨.mv (.l 0), (.var 13), none, true, 7, none⟩]) (.seq (.reg [⟨.bin .quo 3 false true (.v 2) (.k (.int .i64 8)), .push, none, false, 1, none⟩,
    ⟨.mv (.l 0), (.var 14), none, true, 2, none⟩]) (.seq (.reg [⟨.bin .lss 3 false false (.v 12) (.v 13), .push, none, false, 2, none⟩]) (.cond (.l 0) (.seq (.reg [⟨.bin .geq 3 false false (.v 12) (.v 14), .push, none, false, 2, none⟩,
    ⟨.mv (.l 0), (.var 5), none, true, 3, none⟩]) (.seq (.reg [⟨.call 58 [(.v 3), (.v 1), (.v 11), (.v 4)], .push, none, false, 4, (some 0)⟩]) (.reg [⟨.bin .add 3 false true (.v 11) (.k (.int .i64 1)), .push, none, false, 1, none⟩,
    ⟨.mv (.l 0), (.var 1), none, true, 2, none⟩]))) (.seq (.reg [⟨.bin .geq 3 false false (.v 13) (.v 14), .push, none, false, 2, none⟩,
    ⟨.mv (.l 0), (.var 5), none, true, 3, none⟩]) (.seq (.reg [⟨.bin .add 3 false true (.v 11) (.k (.int .i64 1)), .push, none, false, 2, none⟩,
    ⟨.call 58 [(.v 3), (.l 0), (.v 0), (.v 4)], .push, none, false, 5, (some 0)⟩]) (.reg [⟨.mv (.v 11), (.var 0), none, true, 1, none⟩])))))))))))))))))))))), []⟩
noncomputable def G58 (E : Env) : ZFn := ⟨134, [2, 1, 10, 0, 3, 8, 12, 11, 9, 13, 15, 14, 16, 17, 18], fun cy Y fuel =>
  (zSeq (zReg fun k => (zDst (.var 5) (vMv (.k (.bool true)))) k)
  (zSeq (zReg fun k => (zDst (.var 8) (vMv (.k (.bool true)))) k)
  (zBlock 0 (zLoop fuel (zBlock 1 (zSeq (zReg fun k => (zDst .push (vInt E fSub .sub 3 false false (.v 0) (.v 1))) ((zDst (.var 2) (vMv (.l 0))) k))
  (zSeq (zSeq (zReg fun k => (zDst .push (vInt E (fGen .leq) .leq 3 false true (.v 2) (.k (.int .i64 12)))) k)
  (zCond (.l 0) (zSeq (zReg fun k => (zCall (cy Y) 74 [(.v 3), (.v 1), (.v 0)] .push) k)
  zRet) zSkip))
  (zSeq (zSeq (zReg fun k => (zDst .push (vInt E fEql .eql 3 false true (.v 4) (.k (.int .i64 0)))) k)
  (zCond (.l 0) (zSeq (zReg fun k => (zCall (cy Y) 75 [(.v 3), (.v 1), (.v 0)] .push) k)
  zRet) zSkip))
  (zSeq (zSeq (zReg fun k => (zDst .push (vNot (.v 5))) k)
  (zCond (.l 0) (zSeq (zReg fun k => (zCall (cy Y) 76 [(.v 3), (.v 1), (.v 0)] .push) k)
  (zReg fun k => (zDst .push (vMv (.v 4))) ((zDst .push (vInt E fSub .sub 3 false true (.l 0) (.k (.int .i64 1)))) ((zDst (.var 4) (vMv (.l 0))) k)))) zSkip))
  (zSeq (zReg fun k => (zCall (cy Y) 77 [(.v 3), (.v 1), (.v 0)] .push) ((zDst .push (vExtract 0 (.l 0))) ((zDst .push (vExtract 1 (.l 1))) ((zDst (.var 7) (vMv (.l 1))) ((zDst (.var 6) (vMv (.l 0))) k)))))
  (zSeq (zSeq (zReg fun k => (zDst .push (vInt E fEql .eql 111 false true (.v 6) (.k (.int .i64 2)))) k)
  (zCond (.l 0) (zSeq (zReg fun k => (zCall (cy Y) 78 [(.v 3), (.v 1), (.v 0)] .push) k)
  (zSeq (zReg fun k => (zDst .push (vInt E fSub .sub 3 false true (.v 0) (.k (.int .i64 1)))) ((zDst .push (vMv (.v 7))) ((zDst .push (vInt E fSub .sub 3 false false (.l 0) (.v 1))) ((zDst .push (vInt E fSub .sub 3 false false (.l 2) (.l 0))) ((zDst (.var 7) (vMv (.l 0))) k)))))
  (zReg fun k => (zDst (.var 6) (vMv (.k (.int .i64 1)))) k))) zSkip))
  (zSeq (zSeq (zReg fun k => (zG (.v 5) true .push (zDst .push (vMv (.v 8)))) ((zDst .push (vPick (.v 5) (.l 0) (.k (.bool false)))) ((zG (.l 0) true .push (zDst .push (vMv (.v 6)))) ((zG (.l 1) true .push (zDst .push (vInt E fEql .eql 111 false true (.l 0) (.k (.int .i64 1))))) ((zDst .push (vPick (.l 2) (.l 0) (.k (.bool false)))) k)))))
  (zCond (.l 0) (zSeq (zReg fun k => (zCall (cy Y) 79 [(.v 3), (.v 1), (.v 0)] .push) k)
  (zCond (.l 0) zRet zSkip)) zSkip))
  (zSeq (zSeq (zDreg 1 fun n0 k => (fun k sp => zDst .push (vInt E fGtr .gtr 3 false true (.v 1) (.k (.int .i64 0))) (k sp)) ((zGD (.l 0) true .push (fun k sp => zDst .push (vMv (.v 3)) (k sp))) ((zGD (.l 1) true .push (fun k sp => zDst .push (vMv (.v 1)) (k sp))) ((zGD (.l 2) true .push (fun k sp => zDst .push (vInt E fSub .sub 3 false true (.l 0) (.k (.int .i64 1))) (k sp))) ((zGD (.l 3) true .push (fun k sp => zDst .push (vIndexAddr 1 (.l 2) (.l 0)) (k sp))) ((zGD (.l 4) true .push (zDstWD [0, 1, 3, 7, 7, 23, 63, 127, 7, 7, 775, 1799, 4095, 8191, 16383] 7 .push (wLoad 1 false (.l 0)))) ((zGD (.l 5) true .push (fun k sp => zDst .push (vMv (.v 3)) (k sp))) ((zGD (.l 6) true .push (fun k sp => zDst .push (vMv (.v 7)) (k sp))) ((zGD (.l 7) true .push (fun k sp => zDst .push (vIndexAddr 1 (.l 1) (.l 0)) (k sp))) ((zGD (.l 8) true .push (zDstWD [0, 1, 3, 7, 7, 23, 63, 127, 7, 7, 775, 1799, 4095, 8191, 16383] 11 .push (wLoad 1 false (.l 0)))) ((zGD (.l 9) true .push (zCallD (cy Y) [0, 1, 3, 7, 7, 23, 63, 127, 7, 7, 775, 1799, 4095, 8191, 16383] 12 80 [(.l 4), (.l 0)] .push)) ((zGD (.l 10) true .push (fun k sp => zDst .push (vNot (.l 0)) (k sp))) ((fun k sp => zDst .push (vPick (.l 11) (.l 0) (.k (.bool false))) (k sp)) k)))))))))))))
  (zCond (.l 0) (zSeq (zReg fun k => (zCall (cy Y) 81 [(.v 3), (.v 1), (.v 0), (.v 7)] .push) ((zDst (.var 9) (vMv (.l 0))) k))
  (zSeq (zReg fun k => (zDst (.var 1) (vMv (.v 9))) k)
  (zExit 1))) zSkip))
  (zSeq (zReg fun k => (zCall (cy Y) 82 [(.v 3), (.v 1), (.v 0), (.v 7)] .push) ((zDst .push (vExtract 0 (.l 0))) ((zDst .push (vExtract 1 (.l 1))) ((zDst (.var 11) (vMv (.l 1))) ((zDst (.var 10) (vMv (.l 0))) k)))))
  (zSeq (zReg fun k => (zDst (.var 8) (vMv (.v 10))) k)
  (zSeq (zReg fun k => (zDst .push (vInt E fSub .sub 3 false false (.v 11) (.v 1))) ((zDst .push (vInt E fSub .sub 3 false false (.v 0) (.v 11))) ((zDst (.var 12) (vMv (.l 1))) ((zDst (.var 13) (vMv (.l 0))) k))))
  (zSeq (zReg fun k => (zDst .push (vInt E (fGen .quo) .quo 3 false true (.v 2) (.k (.int .i64 8)))) ((zDst (.var 14) (vMv (.l 0))) k))
  (zSeq (zReg fun k => (zDst .push (vInt E fLss .lss 3 false false (.v 12) (.v 13))) k)
  (zCond (.l 0) (zSeq (zReg fun k => (zDst .push (vInt E (fGen .geq) .geq 3 false false (.v 12) (.v 14))) ((zDst (.var 5) (vMv (.l 0))) k))
  (zSeq (zReg fun k => (zCall (cy Y) 58 [(.v 3), (.v 1), (.v 11), (.v 4)] .push) k)
  (zReg fun k => (zDst .push (vInt E fAdd .add 3 false true (.v 11) (.k (.int .i64 1)))) ((zDst (.var 1) (vMv (.l 0))) k)))) (zSeq (zReg fun k => (zDst .push (vInt E (fGen .geq) .geq 3 false false (.v 13) (.v 14))) ((zDst (.var 5) (vMv (.l 0))) k))
  (zSeq (zReg fun k => (zDst .push (vInt E fAdd .add 3 false true (.v 11) (.k (.int .i64 1)))) ((zCall (cy Y) 58 [(.v 3), (.l 0), (.v 0), (.v 4)] .push) k))
  (zReg fun k => (zDst (.var 0) (vMv (.v 11))) k)))))))))))))))))))))), []⟩
theorem G58_ok (fn : Nat → Option Func) (pu : Nat → Bool) (pr : Nat → List AV → Option (Heap → Option (Eff × Acc))) : ZOk ⟨Tryz.tyT, fn, pu, pr⟩ npT F58 (G58 ⟨Tryz.tyT, fn, pu, pr⟩) := ⟨rfl, rfl, rfl, fun cy Y k => by kernel_rfl⟩
noncomputable def F59 : FFn := ⟨8, [0, 2], (.seq (.reg [⟨.mv (.k (.int .i64 0)), (.var 1), none, true, 0, none⟩]) (.seq (.cond (.k (.bool false)) (.seq (.reg [⟨.conv 101 120 (.v 0), .push, none, false, 1, none⟩,
    ⟨.call 83 [(.l 0)], .push, none, false, 2, (some 0)⟩,
    ⟨.mv (.l 0), (.var 1), none, true, 3, none⟩]) .ret) .skip) (.seq (.reg [⟨.call 84 [(.v 0)], .push, none, false, 1, (some 0)⟩,
    ⟨.mv (.l 0), (.var 1), none, true, 2, none⟩]) .ret))), [.tmp (.v 1)]⟩
noncomputable def G59 (E : Env) : ZFn := ⟨8, [0, 2], fun cy Y fuel =>
  (zSeq (zReg fun k => (zDst (.var 1) (vMv (.k (.int .i64 0)))) k)
  (zSeq (zCond (.k (.bool false)) (zSeq (zReg fun k => (zDst .push (vConv .u32 (.v 0))) ((zCall (cy Y) 83 [(.l 0)] .push) ((zDst (.var 1) (vMv (.l 0))) k)))
  zRet) zSkip)
  (zSeq (zReg fun k => (zCall (cy Y) 84 [(.v 0)] .push) ((zDst (.var 1) (vMv (.l 0))) k))
  zRet))), [.tmp (.v 1)]⟩
theorem G59_ok (fn : Nat → Option Func) (pu : Nat → Bool) (pr : Nat → List AV → Option (Heap → Option (Eff × Acc))) : ZOk ⟨Tryz.tyT, fn, pu, pr⟩ npT F59 (G59 ⟨Tryz.tyT, fn, pu, pr⟩) := ⟨rfl, rfl, rfl, fun cy Y k => by kernel_rfl⟩
noncomputable def F74 : FFn := ⟨49, [1, 6, 2, 7, 0], (.seq (.reg [⟨.bin .add 3 false true (.v 0) (.k (.int .i64 1)), .push, none, false, 1, none⟩,
    ⟨.mv (.l 0), (.var 1), none, true, 2, none⟩]) (.block 0 (.loop (.seq (.seq (.reg [⟨.bin .lss 3 false false (.v 1) (.v 2), .push, none, false, 2, none⟩]) (.cond (.l 0) .skip (.exit 0))) (.seq (.block 1 (.seq (.reg [⟨.mv (.v 1), (.var 3), none, true, 1, none⟩]) (.block 2 (.loop (.seq (.seq (.dreg 1 [0, 0, 3, 7, 15, 15, 63, 127, 15, 15, 527, 1807, 3855, 8191, 16383] [⟨.bin .gtr 3 false false (.v 3) (.v 0), .push, none, false, 2, none⟩,
    ⟨.mv (.v 4), .push, (some ((.l 0), true)), true, 4, none⟩,
    ⟨.mv (.v 3), .push, (some ((.l 1), true)), true, 5, none⟩,
    ⟨.indexAddr 27 (.l 1) (.l 0), .push, (some ((.l 2), true)), true, 6, none⟩,
    ⟨.load 9 (.l 0), .push, (some ((.l 3), true)), true, 7, none⟩,
    ⟨.mv (.v 4), .push, (some ((.l 4), true)), true, 8, none⟩,
    ⟨.mv (.v 3), .push, (some ((.l 5), true)), true, 9, none⟩,
    ⟨.bin .sub 3 false true (.l 0) (.k (.int .i64 1)), .push, (some ((.l 6), true)), false, 10, none⟩,
    ⟨.indexAddr 27 (.l 2) (.l 0), .push, (some ((.l 7), true)), true, 11, none⟩,
    ⟨.load 9 (.l 0), .push, (some ((.l 8), true)), true, 12, none⟩,
    ⟨.call 80 [(.l 5), (.l 0)], .push, (some ((.l 9), true)), false, 13, (some 0)⟩,
    ⟨.pick (.l 10) (.l 0) (.k (.bool false)), .push, none, true, 14, none⟩]) (.cond (.l 0) .skip (.exit 2))) (.seq (.block 3 (.dreg 0 [0, 0, 0, 0, 8, 0, 0, 64, 224, 480, 0, 0, 3072, 7168, 16355, 32739, 65535, 131071] [⟨.bin .sub 3 false true (.v 3) (.k (.int .i64 1)), .push, none, false, 4, none⟩,
    ⟨.bin .sub 3 false true (.v 3) (.k (.int .i64 1)), .push, none, false, 7, none⟩,
    ⟨.indexAddr 27 (.v 4) (.l 0), .push, none, true, 8, none⟩,
    ⟨.load 9 (.l 0), .push, none, true, 9, none⟩,
    ⟨.indexAddr 27 (.v 4) (.v 3), .push, none, true, 12, none⟩,
    ⟨.load 9 (.l 0), .push, none, true, 13, none⟩,
    ⟨.indexAddr 27 (.v 4) (.v 3), .push, none, true, 14, none⟩,
    ⟨.store 9 (.l 0) (.l 3), .none, none, false, 15, none⟩,
    ⟨.indexAddr 27 (.v 4) (.l 6), .push, none, true, 16, none⟩,
    ⟨.store 9 (.l 0) (.l 2), .none, none, false, 17, none⟩])) (.reg [⟨.mv (.v 3), .push, none, true, 0, none⟩,
    ⟨.bin .sub 3 false true (.l 0) (.k (.int .i64 1)), .push, none, false, 1, none⟩,
    ⟨.mv (.l 0), (.var 3), none, true, 2, none⟩]))))))) (.reg [⟨.mv (.v 1), .push, none, true, 0, none⟩,
    ⟨.bin .add 3 false true (.l 0) (.k (.int .i64 1)), .push, none, false, 1, none⟩,
    ⟨.mv (.l 0), (.var 1), none, true, 2, none⟩])))))), []⟩
noncomputable def G74 (E : Env) : ZFn := ⟨49, [1, 6, 2, 7, 0], fun cy Y fuel =>
  (zSeq (zReg fun k => (zDst .push (vInt E fAdd .add 3 false true (.v 0) (.k (.int .i64 1)))) ((zDst (.var 1) (vMv (.l 0))) k))
  (zBlock 0 (zLoop fuel (zSeq (zSeq (zReg fun k => (zDst .push (vInt E fLss .lss 3 false false (.v 1) (.v 2))) k)
  (zCond (.l 0) zSkip (zExit 0)))
  (zSeq (zBlock 1 (zSeq (zReg fun k => (zDst (.var 3) (vMv (.v 1))) k)
  (zBlock 2 (zLoop fuel (zSeq (zSeq (zDreg 1 fun n0 k => (fun k sp => zDst .push (vInt E fGtr .gtr 3 false false (.v 3) (.v 0)) (k sp)) ((zGD (.l 0) true .push (fun k sp => zDst .push (vMv (.v 4)) (k sp))) ((zGD (.l 1) true .push (fun k sp => zDst .push (vMv (.v 3)) (k sp))) ((zGD (.l 2) true .push (fun k sp => zDst .push (vIndexAddr 1 (.l 1) (.l 0)) (k sp))) ((zGD (.l 3) true .push (zDstWD [0, 0, 3, 7, 15, 15, 63, 127, 15, 15, 527, 1807, 3855, 8191, 16383] 7 .push (wLoad 1 false (.l 0)))) ((zGD (.l 4) true .push (fun k sp => zDst .push (vMv (.v 4)) (k sp))) ((zGD (.l 5) true .push (fun k sp => zDst .push (vMv (.v 3)) (k sp))) ((zGD (.l 6) true .push (fun k sp => zDst .push (vInt E fSub .sub 3 false true (.l 0) (.k (.int .i64 1))) (k sp))) ((zGD (.l 7) true .push (fun k sp => zDst .push (vIndexAddr 1 (.l 2) (.l 0)) (k sp))) ((zGD (.l 8) true .push (zDstWD [0, 0, 3, 7, 15, 15, 63, 127, 15, 15, 527, 1807, 3855, 8191, 16383] 12 .push (wLoad 1 false (.l 0)))) ((zGD (.l 9) true .push (zCallD (cy Y) [0, 0, 3, 7, 15, 15, 63, 127, 15, 15, 527, 1807, 3855, 8191, 16383] 13 80 [(.l 5), (.l 0)] .push)) ((fun k sp => zDst .push (vPick (.l 10) (.l 0) (.k (.bool false))) (k sp)) k))))))))))))
  (zCond (.l 0) zSkip (zExit 2)))
  (zSeq (zBlock 3 (zDreg 0 fun n0 k => (fun k sp => zDst .push (vInt E fSub .sub 3 false true (.v 3) (.k (.int .i64 1))) (k sp)) ((fun k sp => zDst .push (vInt E fSub .sub 3 false true (.v 3) (.k (.int .i64 1))) (k sp)) ((fun k sp => zDst .push (vIndexAddr 1 (.v 4) (.l 0)) (k sp)) ((zDstWD [0, 0, 0, 0, 8, 0, 0, 64, 224, 480, 0, 0, 3072, 7168, 16355, 32739, 65535, 131071] 9 .push (wLoad 1 false (.l 0))) ((fun k sp => zDst .push (vIndexAddr 1 (.v 4) (.v 3)) (k sp)) ((zDstWD [0, 0, 0, 0, 8, 0, 0, 64, 224, 480, 0, 0, 3072, 7168, 16355, 32739, 65535, 131071] 13 .push (wLoad 1 false (.l 0))) ((fun k sp => zDst .push (vIndexAddr 1 (.v 4) (.v 3)) (k sp)) ((zStepD E (cy Y) [0, 0, 0, 0, 8, 0, 0, 64, 224, 480, 0, 0, 3072, 7168, 16355, 32739, 65535, 131071] n0 ⟨.store 9 (.l 0) (.l 3), .none, none, false, 15, none⟩) ((fun k sp => zDst .push (vIndexAddr 1 (.v 4) (.l 6)) (k sp)) ((zStepD E (cy Y) [0, 0, 0, 0, 8, 0, 0, 64, 224, 480, 0, 0, 3072, 7168, 16355, 32739, 65535, 131071] n0 ⟨.store 9 (.l 0) (.l 2), .none, none, false, 17, none⟩) k)))))))))))
  (zReg fun k => (zDst .push (vMv (.v 3))) ((zDst .push (vInt E fSub .sub 3 false true (.l 0) (.k (.int .i64 1)))) ((zDst (.var 3) (vMv (.l 0))) k)))))))))
  (zReg fun k => (zDst .push (vMv (.v 1))) ((zDst .push (vInt E fAdd .add 3 false true (.l 0) (.k (.int .i64 1)))) ((zDst (.var 1) (vMv (.l 0))) k)))))))), []⟩
theorem G74_ok (fn : Nat → Option Func) (pu : Nat → Bool) (pr : Nat → List AV → Option (Heap → Option (Eff × Acc))) : ZOk ⟨Tryz.tyT, fn, pu, pr⟩ npT F74 (G74 ⟨Tryz.tyT, fn, pu, pr⟩) := ⟨rfl, rfl, rfl, fun cy Y k => by kernel_rfl⟩
noncomputable def F80 : FFn := ⟨17, [0, 1, 4], (.seq (.reg [⟨.mv (.k (.bool false)), (.var 2), none, true, 0, none⟩]) (.seq (.reg [⟨.call 103 [(.v 0)], .push, none, false, 1, (some 0)⟩,
    ⟨.mv (.v 1), .push, (some ((.l 0), true)), true, 3, none⟩,
    ⟨.call 103 [(.l 0)], .push, (some ((.l 1), true)), false, 4, (some 1)⟩,
    ⟨.un .not (.l 0), .push, (some ((.l 2), true)), false, 5, none⟩,
    ⟨.pick (.l 3) (.l 0) (.k (.bool false)), .push, none, true, 6, none⟩,
    ⟨.mv (.v 0), .push, (some ((.l 0), false)), true, 8, none⟩,
    ⟨.mv (.v 1), .push, (some ((.l 1), false)), true, 9, none⟩,
    ⟨.bin .lss 9 false false (.l 1) (.l 0), .push, (some ((.l 2), false)), false, 10, none⟩,
    ⟨.pick (.l 3) (.k (.bool true)) (.l 0), .push, none, true, 11, none⟩,
    ⟨.mv (.l 0), (.var 2), none, true, 12, none⟩]) .ret)), [.tmp (.v 2)]⟩
noncomputable def G80 (E : Env) : ZFn := ⟨17, [0, 1, 4], fun cy Y fuel =>
  (zSeq (zReg fun k => (zDst (.var 2) (vMv (.k (.bool false)))) k)
  (zSeq (zReg fun k => (zCall (cy Y) 103 [(.v 0)] .push) ((zG (.l 0) true .push (zDst .push (vMv (.v 1)))) ((zG (.l 1) true .push (zCall (cy Y) 103 [(.l 0)] .push)) ((zG (.l 2) true .push (zDst .push (vNot (.l 0)))) ((zDst .push (vPick (.l 3) (.l 0) (.k (.bool false)))) ((zG (.l 0) false .push (zDst .push (vMv (.v 0)))) ((zG (.l 1) false .push (zDst .push (vMv (.v 1)))) ((zG (.l 2) false .push (zDst .push (vInt E fLss .lss 9 false false (.l 1) (.l 0)))) ((zDst .push (vPick (.l 3) (.k (.bool true)) (.l 0))) ((zDst (.var 2) (vMv (.l 0))) k))))))))))
  zRet)), [.tmp (.v 2)]⟩
theorem G80_ok (fn : Nat → Option Func) (pu : Nat → Bool) (pr : Nat → List AV → Option (Heap → Option (Eff × Acc))) : ZOk ⟨Tryz.tyT, fn, pu, pr⟩ npT F80 (G80 ⟨Tryz.tyT, fn, pu, pr⟩) := ⟨rfl, rfl, rfl, fun cy Y k => by kernel_rfl⟩
noncomputable def F84 : FFn := ⟨25, [0, 2], (.seq (.reg [⟨.mv (.k (.int .i64 0)), (.var 1), none, true, 0, none⟩]) (.seq (.seq (.reg [⟨.bin .geq 28 false true (.v 0) (.k (.int .u64 4294967296)), .push, none, false, 1, none⟩]) (.cond (.l 0) (.seq (.reg [⟨.mv (.v 0), .push, none, true, 0, none⟩,
    ⟨.bin .shr 28 false true (.l 0) (.k (.int .u64 32)), .push, none, false, 1, none⟩,
    ⟨.mv (.l 0), (.var 0), none, true, 2, none⟩]) (.reg [⟨.mv (.k (.int .i64 32)), (.var 1), none, true, 0, none⟩])) .skip)) (.seq (.seq (.reg [⟨.bin .geq 28 false true (.v 0) (.k (.int .u64 65536)), .push, none, false, 1, none⟩]) (.cond (.l 0) (.seq (.reg [⟨.mv (.v 0), .push, none, true, 0, none⟩,
    ⟨.bin .shr 28 false true (.l 0) (.k (.int .u64 16)), .push, none, false, 1, none⟩,
    ⟨.mv (.l 0), (.var 0), none, true, 2, none⟩]) (.reg [⟨.mv (.v 1), .push, none, true, 0, none⟩,
    ⟨.bin .add 3 false true (.l 0) (.k (.int .i64 16)), .push, none, false, 1, none⟩,
    ⟨.mv (.l 0), (.var 1), none, true, 2, none⟩])) .skip)) (.seq (.seq (.reg [⟨.bin .geq 28 false true (.v 0) (.k (.int .u64 256)), .push, none, false, 1, none⟩]) (.cond (.l 0) (.seq (.reg [⟨.mv (.v 0), .push, none, true, 0, none⟩,
    ⟨.bin .shr 28 false true (.l 0) (.k (.int .u64 8)), .push, none, false, 1, none⟩,
    ⟨.mv (.l 0), (.var 0), none, true, 2, none⟩]) (.reg [⟨.mv (.v 1), .push, none, true, 0, none⟩,
    ⟨.bin .add 3 false true (.l 0) (.k (.int .i64 8)), .push, none, false, 1, none⟩,
    ⟨.mv (.l 0), (.var 1), none, true, 2, none⟩])) .skip)) (.seq (.reg [⟨.mv (.v 1), .push, none, true, 0, none⟩,
    ⟨.conv 28 5 (.v 0), .push, none, false, 2, none⟩,
    ⟨.index 9 (.k (.str [0, 1, 2, 2, 3, 3, 3, 3, 4, 4, 4, 4, 4, 4, 4, 4, 5, 5, 5, 5, 5, 5, 5, 5, 5, 5, 5, 5, 5, 5, 5, 5, 6, 6, 6, 6, 6, 6, 6, 6, 6, 6, 6, 6, 6, 6, 6, 6, 6, 6, 6, 6, 6, 6, 6, 6, 6, 6, 6, 6, 6, 6, 6, 6, 7, 7, 7, 7, 7, 7, 7, 7, 7, 7, 7, 7, 7, 7, 7, 7, 7, 7, 7, 7, 7, 7, 7, 7, 7, 7, 7, 7, 7, 7, 7, 7, 7, 7, 7, 7, 7, 7, 7, 7, 7, 7, 7, 7, 7, 7, 7, 7, 7, 7, 7, 7, 7, 7, 7, 7, 7, 7, 7, 7, 7, 7, 7, 7, 8, 8, 8, 8, 8, 8, 8, 8, 8, 8, 8, 8, 8, 8, 8, 8, 8, 8, 8, 8, 8, 8, 8, 8, 8, 8, 8, 8, 8, 8, 8, 8, 8, 8, 8, 8, 8, 8, 8, 8, 8, 8, 8, 8, 8, 8, 8, 8, 8, 8, 8, 8, 8, 8, 8, 8, 8, 8, 8, 8, 8, 8, 8, 8, 8, 8, 8, 8, 8, 8, 8, 8, 8, 8, 8, 8, 8, 8, 8, 8, 8, 8, 8, 8, 8, 8, 8, 8, 8, 8, 8, 8, 8, 8, 8, 8, 8, 8, 8, 8, 8, 8, 8, 8, 8, 8, 8, 8, 8, 8, 8, 8, 8, 8, 8, 8, 8, 8, 8, 8, 8, 8, 8, 8, 8, 8, 8, 8])) (.l 0), .push, none, false, 3, none⟩,
    ⟨.conv 5 3 (.l 0), .push, none, false, 4, none⟩,
    ⟨.bin .add 3 false false (.l 3) (.l 0), .push, none, false, 5, none⟩,
    ⟨.mv (.l 0), (.var 1), none, true, 6, none⟩]) .ret))))), [.tmp (.v 1)]⟩
noncomputable def G84 (E : Env) : ZFn := ⟨25, [0, 2], fun cy Y fuel =>
  (zSeq (zReg fun k => (zDst (.var 1) (vMv (.k (.int .i64 0)))) k)
  (zSeq (zSeq (zReg fun k => (zDst .push (vInt E (fGen .geq) .geq 28 false true (.v 0) (.k (.int .u64 4294967296)))) k)
  (zCond (.l 0) (zSeq (zReg fun k => (zDst .push (vMv (.v 0))) ((zDst .push (vBin E .shr 28 false true (.l 0) (.k (.int .u64 32)))) ((zDst (.var 0) (vMv (.l 0))) k)))
  (zReg fun k => (zDst (.var 1) (vMv (.k (.int .i64 32)))) k)) zSkip))
  (zSeq (zSeq (zReg fun k => (zDst .push (vInt E (fGen .geq) .geq 28 false true (.v 0) (.k (.int .u64 65536)))) k)
  (zCond (.l 0) (zSeq (zReg fun k => (zDst .push (vMv (.v 0))) ((zDst .push (vBin E .shr 28 false true (.l 0) (.k (.int .u64 16)))) ((zDst (.var 0) (vMv (.l 0))) k)))
  (zReg fun k => (zDst .push (vMv (.v 1))) ((zDst .push (vInt E fAdd .add 3 false true (.l 0) (.k (.int .i64 16)))) ((zDst (.var 1) (vMv (.l 0))) k)))) zSkip))
  (zSeq (zSeq (zReg fun k => (zDst .push (vInt E (fGen .geq) .geq 28 false true (.v 0) (.k (.int .u64 256)))) k)
  (zCond (.l 0) (zSeq (zReg fun k => (zDst .push (vMv (.v 0))) ((zDst .push (vBin E .shr 28 false true (.l 0) (.k (.int .u64 8)))) ((zDst (.var 0) (vMv (.l 0))) k)))
  (zReg fun k => (zDst .push (vMv (.v 1))) ((zDst .push (vInt E fAdd .add 3 false true (.l 0) (.k (.int .i64 8)))) ((zDst (.var 1) (vMv (.l 0))) k)))) zSkip))
  (zSeq (zReg fun k => (zDst .push (vMv (.v 1))) ((zDst .push (vConv .u8 (.v 0))) ((zStep E (cy Y) ⟨.index 9 (.k (.str [0, 1, 2, 2, 3, 3, 3, 3, 4, 4, 4, 4, 4, 4, 4, 4, 5, 5, 5, 5, 5, 5, 5, 5, 5, 5, 5, 5, 5, 5, 5, 5, 6, 6, 6, 6, 6, 6, 6, 6, 6, 6, 6, 6, 6, 6, 6, 6, 6, 6, 6, 6, 6, 6, 6, 6, 6, 6, 6, 6, 6, 6, 6, 6, 7, 7, 7, 7, 7, 7, 7, 7, 7, 7, 7, 7, 7, 7, 7, 7, 7, 7, 7, 7, 7, 7, 7, 7, 7, 7, 7, 7, 7, 7, 7, 7, 7, 7, 7, 7, 7, 7, 7, 7, 7, 7, 7, 7, 7, 7, 7, 7, 7, 7, 7, 7, 7, 7, 7, 7, 7, 7, 7, 7, 7, 7, 7, 7, 8, 8, 8, 8, 8, 8, 8, 8, 8, 8, 8, 8, 8, 8, 8, 8, 8, 8, 8, 8, 8, 8, 8, 8, 8, 8, 8, 8, 8, 8, 8, 8, 8, 8, 8, 8, 8, 8, 8, 8, 8, 8, 8, 8, 8, 8, 8, 8, 8, 8, 8, 8, 8, 8, 8, 8, 8, 8, 8, 8, 8, 8, 8, 8, 8, 8, 8, 8, 8, 8, 8, 8, 8, 8, 8, 8, 8, 8, 8, 8, 8, 8, 8, 8, 8, 8, 8, 8, 8, 8, 8, 8, 8, 8, 8, 8, 8, 8, 8, 8, 8, 8, 8, 8, 8, 8, 8, 8, 8, 8, 8, 8, 8, 8, 8, 8, 8, 8, 8, 8, 8, 8, 8, 8, 8, 8, 8, 8])) (.l 0), .push, none, false, 3, none⟩) ((zDst .push (vConv .i64 (.l 0))) ((zDst .push (vInt E fAdd .add 3 false false (.l 3) (.l 0))) ((zDst (.var 1) (vMv (.l 0))) k))))))
  zRet))))), [.tmp (.v 1)]⟩
theorem G84_ok (fn : Nat → Option Func) (pu : Nat → Bool) (pr : Nat → List AV → Option (Heap → Option (Eff × Acc))) : ZOk ⟨Tryz.tyT, fn, pu, pr⟩ npT F84 (G84 ⟨Tryz.tyT, fn, pu, pr⟩) := ⟨rfl, rfl, rfl, fun cy Y k => by kernel_rfl⟩
noncomputable def F103 : FFn := ⟨6, [0, 2], (.seq (.reg [⟨.mv (.k (.bool false)), (.var 1), none, true, 0, none⟩]) (.seq (.reg [⟨.bin .neq 9 false false (.v 0) (.v 0), .push, none, false, 2, none⟩,
    ⟨.mv (.l 0), (.var 1), none, true, 3, none⟩]) .ret)), [.tmp (.v 1)]⟩
noncomputable def G103 (E : Env) : ZFn := ⟨6, [0, 2], fun cy Y fuel =>
  (zSeq (zReg fun k => (zDst (.var 1) (vMv (.k (.bool false)))) k)
  (zSeq (zReg fun k => (zDst .push (vInt E fNeq .neq 9 false false (.v 0) (.v 0))) ((zDst (.var 1) (vMv (.l 0))) k))
  zRet)), [.tmp (.v 1)]⟩
theorem G103_ok (fn : Nat → Option Func) (pu : Nat → Bool) (pr : Nat → List AV → Option (Heap → Option (Eff × Acc))) : ZOk ⟨Tryz.tyT, fn, pu, pr⟩ npT F103 (G103 ⟨Tryz.tyT, fn, pu, pr⟩) := ⟨rfl, rfl, rfl, fun cy Y k => by kernel_rfl⟩
end Go.Proofs.PxC1
