/- The functions of the seat, in one breath: part 2. -/
import Derived.Test.YtnpphcbfainkbaaGreatPzG1F0
import Derived.KernelRfl
set_option maxRecDepth 100000
set_option linter.unusedVariables false
set_option linter.unusedSimpArgs false
namespace Go.Proofs.PxG1
open Go Go.Px Go.Proofs
noncomputable def F109 : FFn := ⟨18, [0, 9, 8, 7, 1, 6, 4], (.seq (.reg [⟨.mv (.k (.bool false)), (.var 6), none, true, 0, none⟩]) (.seq (.seq (.reg [⟨.mv (.v 0), (.var 3), none, true, 0, none⟩,
    ⟨.len 22 (.v 3), (.var 2), none, false, 1, none⟩,
    ⟨.mv (.k (.int .i64 0)), (.var 1), none, true, 2, none⟩]) (.block 0 (.loop (.seq (.reg [⟨.bin .lss 3 false false (.v 1) (.v 2), .push, none, false, 0, none⟩]) (.seq (.cond (.l 0) .skip (.exit 0)) (.seq (.block 1 (.seq (.reg [⟨.indexAddr 22 (.v 3) (.v 1), .push, none, true, 0, none⟩,
    ⟨.load 24 (.l 0), .push, none, true, 1, none⟩,
    ⟨.alloc 24, (.var 5), none, false, 2, (some 0)⟩,
    ⟨.store 24 (.v 5) (.l 0), .none, none, false, 3, none⟩]) (.seq (.reg [⟨.load 24 (.v 5), .push, none, true, 1, none⟩,
    ⟨.callv (.v 4) [(.l 0)], .push, none, false, 2, (some 0)⟩,
    ⟨.un .not (.l 0), .push, none, false, 3, none⟩]) (.cond (.l 0) (.seq (.reg [⟨.mv (.k (.bool false)), (.var 6), none, true, 0, none⟩]) .ret) .skip)))) (.reg [⟨.bin .add 3 false true (.v 1) (.k (.int .i64 1)), .push, none, false, 0, none⟩,
    ⟨.mv (.l 0), (.var 1), none, true, 1, none⟩]))))))) (.seq (.reg [⟨.mv (.k (.bool true)), (.var 6), none, true, 0, none⟩]) .ret))), [.tmp (.v 6)]⟩
noncomputable def G109 (E : Env) : ZFn := ⟨18, [0, 9, 8, 7, 1, 6, 4], fun cy Y fuel =>
  (zSeq (zReg fun k => (zDst (.var 6) (vMv (.k (.bool false)))) k)
  (zSeq (zSeq (zReg fun k => (zDst (.var 3) (vMv (.v 0))) ((zDst (.var 2) (vLenL (.v 3))) ((zDst (.var 1) (vMv (.k (.int .i64 0)))) k)))
  (zBlock 0 (zLoop fuel (zSeq (zReg fun k => (zDst .push (vInt E fLss .lss 3 false false (.v 1) (.v 2))) k)
  (zSeq (zCond (.l 0) zSkip (zExit 0))
  (zSeq (zBlock 1 (zSeq (zReg fun k => (zDst .push (vIndexAddr 2 (.v 3) (.v 1))) ((zDstW .push (wLoad 2 true (.l 0))) ((zStep E (cy Y) ⟨.alloc 24, (.var 5), none, false, 2, (some 0)⟩) ((zStep E (cy Y) ⟨.store 24 (.v 5) (.l 0), .none, none, false, 3, none⟩) k))))
  (zSeq (zReg fun k => (zDstW .push (wLoad 2 true (.v 5))) ((zStep E (cy Y) ⟨.callv (.v 4) [(.l 0)], .push, none, false, 2, (some 0)⟩) ((zDst .push (vNot (.l 0))) k)))
  (zCond (.l 0) (zSeq (zReg fun k => (zDst (.var 6) (vMv (.k (.bool false)))) k)
  zRet) zSkip))))
  (zReg fun k => (zDst .push (vInt E fAdd .add 3 false true (.v 1) (.k (.int .i64 1)))) ((zDst (.var 1) (vMv (.l 0))) k))))))))
  (zSeq (zReg fun k => (zDst (.var 6) (vMv (.k (.bool true)))) k)
  zRet))), [.tmp (.v 6)]⟩
theorem G109_ok (fn : Nat → Option Func) (pu : Nat → Bool) (pr : Nat → List AV → Option (Heap → Option (Eff × Acc))) : ZOk ⟨Tryz.tyT, fn, pu, pr⟩ npT F109 (G109 ⟨Tryz.tyT, fn, pu, pr⟩) := ⟨rfl, rfl, rfl, fun cy Y k => by kernel_rfl⟩
noncomputable def F110 : FFn := ⟨8, [0, 2, 1, 3], (.seq (.reg [⟨.box 24 (.v 0), (.var 1), none, false, 0, (some 0)⟩,
    ⟨.mv (.k (.bool false)), (.var 3), none, true, 1, none⟩]) (.seq (.reg [⟨.load 24 (.v 1), .push, none, true, 0, none⟩,
    ⟨.load 3 (.v 2), .push, none, true, 1, none⟩,
    ⟨.bin .sub 3 false true (.l 0) (.k (.int .i64 1)), .push, none, false, 2, none⟩,
    ⟨.call 73 [(.l 2), (.l 0)], .push, none, false, 3, (some 0)⟩,
    ⟨.mv (.l 0), (.var 3), none, true, 4, none⟩]) .ret)), [.tmp (.v 3)]⟩
noncomputable def G110 (E : Env) : ZFn := ⟨8, [0, 2, 1, 3], fun cy Y fuel =>
  (zSeq (zReg fun k => (zStep E (cy Y) ⟨.box 24 (.v 0), (.var 1), none, false, 0, (some 0)⟩) ((zDst (.var 3) (vMv (.k (.bool false)))) k))
  (zSeq (zReg fun k => (zDstW .push (wLoad 2 true (.v 1))) ((zDstW .push (wLoad 1 false (.v 2))) ((zDst .push (vInt E fSub .sub 3 false true (.l 0) (.k (.int .i64 1)))) ((zCall (cy Y) 73 [(.l 2), (.l 0)] .push) ((zDst (.var 3) (vMv (.l 0))) k)))))
  zRet)), [.tmp (.v 3)]⟩
theorem G110_ok (fn : Nat → Option Func) (pu : Nat → Bool) (pr : Nat → List AV → Option (Heap → Option (Eff × Acc))) : ZOk ⟨Tryz.tyT, fn, pu, pr⟩ npT F110 (G110 ⟨Tryz.tyT, fn, pu, pr⟩) := ⟨rfl, rfl, rfl, fun cy Y k => by kernel_rfl⟩
noncomputable def F111 : FFn := ⟨12, [0, 2], (.seq (.reg [⟨.alloc 4, (.var 1), none, false, 0, (some 0)⟩]) (.seq (.seq (.reg [⟨.call 136 [(.v 0)], .push, none, false, 1, (some 0)⟩]) (.block 0 (.range (.l 0) 7 [none, none, none, none, (some (.v 1))] [none, none, (some (.v 1)), none, none, none, none, none, none, none, none, none] [7, 8] (codeAt [1, 0, 1, 0, 0] (bodyOf Tryz.f111)) (codeAt [1, 0, 1, 0, 1] (bodyOf Tryz.f111))))) (.seq (.reg [⟨.store 4 (.v 1) (.k (.bool true)), .none, none, false, 0, none⟩]) .ret))), [.cell (.v 1) 4]⟩
noncomputable def G111 (E : Env) : ZFn := ⟨12, [0, 2], fun cy Y fuel =>
  (zSeq (zReg fun k => (zStep E (cy Y) ⟨.alloc 4, (.var 1), none, false, 0, (some 0)⟩) k)
  (zSeq (zSeq (zReg fun k => (zCall (cy Y) 136 [(.v 0)] .push) k)
  (zBlock 0 (zRange cy Y (.l 0) 7 [none, none, none, none, (some (.v 1))] [none, none, (some (.v 1)), none, none, none, none, none, none, none, none, none] [7, 8] (codeAt [1, 0, 1, 0, 0] (bodyOf Tryz.f111)) (codeAt [1, 0, 1, 0, 1] (bodyOf Tryz.f111)))))
  (zSeq (zReg fun k => (zStep E (cy Y) ⟨.store 4 (.v 1) (.k (.bool true)), .none, none, false, 0, none⟩) k)
  zRet))), [.cell (.v 1) 4]⟩
theorem G111_ok (fn : Nat → Option Func) (pu : Nat → Bool) (pr : Nat → List AV → Option (Heap → Option (Eff × Acc))) : ZOk ⟨Tryz.tyT, fn, pu, pr⟩ npT F111 (G111 ⟨Tryz.tyT, fn, pu, pr⟩) := ⟨rfl, rfl, rfl, fun cy Y k => by kernel_rfl⟩
noncomputable def F112 : FFn := ⟨9, [0, 1, 4], (.seq (.reg [⟨.mv (.k (.bool false)), (.var 2), none, true, 0, none⟩]) (.seq (.reg [⟨.call 137 [(.v 0), (.v 1)], .push, none, false, 2, (some 0)⟩,
    ⟨.bin .geq 3 false true (.l 0) (.k (.int .i64 0)), .push, none, false, 3, none⟩,
    ⟨.mv (.l 0), (.var 2), none, true, 4, none⟩]) .ret)), [.tmp (.v 2)]⟩
noncomputable def G112 (E : Env) : ZFn := ⟨9, [0, 1, 4], fun cy Y fuel =>
  (zSeq (zReg fun k => (zDst (.var 2) (vMv (.k (.bool false)))) k)
  (zSeq (zReg fun k => (zCall (cy Y) 137 [(.v 0), (.v 1)] .push) ((zDst .push (vInt E (fGen .geq) .geq 3 false true (.l 0) (.k (.int .i64 0)))) ((zDst (.var 2) (vMv (.l 0))) k)))
  zRet)), [.tmp (.v 2)]⟩
theorem G112_ok (fn : Nat → Option Func) (pu : Nat → Bool) (pr : Nat → List AV → Option (Heap → Option (Eff × Acc))) : ZOk ⟨Tryz.tyT, fn, pu, pr⟩ npT F112 (G112 ⟨Tryz.tyT, fn, pu, pr⟩) := ⟨rfl, rfl, rfl, fun cy Y k => by kernel_rfl⟩
noncomputable def F113 : FFn := ⟨6, [0, 2], (.seq (.reg [⟨.mv (.k (.bool false)), (.var 1), none, true, 0, none⟩]) (.seq (.reg [⟨.len 9 (.v 0), .push, none, false, 1, none⟩,
    ⟨.bin .gtr 3 false true (.l 0) (.k (.int .i64 16)), .push, none, false, 2, none⟩,
    ⟨.mv (.l 0), (.var 1), none, true, 3, none⟩]) .ret)), [.tmp (.v 1)]⟩
noncomputable def G113 (E : Env) : ZFn := ⟨6, [0, 2], fun cy Y fuel =>
  (zSeq (zReg fun k => (zDst (.var 1) (vMv (.k (.bool false)))) k)
  (zSeq (zReg fun k => (zDst .push (vLenS (.v 0))) ((zDst .push (vInt E fGtr .gtr 3 false true (.l 0) (.k (.int .i64 16)))) ((zDst (.var 1) (vMv (.l 0))) k)))
  zRet)), [.tmp (.v 1)]⟩
theorem G113_ok (fn : Nat → Option Func) (pu : Nat → Bool) (pr : Nat → List AV → Option (Heap → Option (Eff × Acc))) : ZOk ⟨Tryz.tyT, fn, pu, pr⟩ npT F113 (G113 ⟨Tryz.tyT, fn, pu, pr⟩) := ⟨rfl, rfl, rfl, fun cy Y k => by kernel_rfl⟩
noncomputable def F114 : FFn := ⟨19, [0, 8, 7, 1, 5, 4], (.seq (.reg [⟨.mv (.k (.int .i64 0)), (.var 5), none, true, 0, none⟩]) (.seq (.seq (.reg [⟨.len 28 (.v 0), (.var 2), none, false, 1, none⟩,
    ⟨.mv (.k (.int .i64 0)), (.var 1), none, true, 2, none⟩]) (.block 0 (.loop (.seq (.reg [⟨.bin .lss 3 false false (.v 1) (.v 2), .push, none, false, 0, none⟩]) (.seq (.cond (.l 0) .skip (.exit 0)) (.seq (.block 1 (.seq (.reg [⟨.mv (.v 1), (.var 4), none, true, 1, none⟩]) (.seq (.reg [⟨.indexAddr 28 (.v 0) (.v 4), .push, none, true, 3, none⟩,
    ⟨.load 30 (.l 0), .push, none, true, 4, none⟩,
    ⟨.callv (.v 3) [(.l 0)], .push, none, false, 5, (some 0)⟩]) (.cond (.l 0) (.seq (.reg [⟨.mv (.v 4), (.var 5), none, true, 1, none⟩]) .ret) .skip)))) (.reg [⟨.bin .add 3 false true (.v 1) (.k (.int .i64 1)), .push, none, false, 0, none⟩,
    ⟨.mv (.l 0), (.var 1), none, true, 1, none⟩]))))))) (.seq (.reg [⟨.mv (.k (.int .i64 (-1))), (.var 5), none, true, 0, none⟩]) .ret))), [.tmp (.v 5)]⟩
noncomputable def G114 (E : Env) : ZFn := ⟨19, [0, 8, 7, 1, 5, 4], fun cy Y fuel =>
  (zSeq (zReg fun k => (zDst (.var 5) (vMv (.k (.int .i64 0)))) k)
  (zSeq (zSeq (zReg fun k => (zDst (.var 2) (vLenL (.v 0))) ((zDst (.var 1) (vMv (.k (.int .i64 0)))) k))
  (zBlock 0 (zLoop fuel (zSeq (zReg fun k => (zDst .push (vInt E fLss .lss 3 false false (.v 1) (.v 2))) k)
  (zSeq (zCond (.l 0) zSkip (zExit 0))
  (zSeq (zBlock 1 (zSeq (zReg fun k => (zDst (.var 4) (vMv (.v 1))) k)
  (zSeq (zReg fun k => (zDst .push (vIndexAddr 5 (.v 0) (.v 4))) ((zDstW .push (wLoad 5 true (.l 0))) ((zStep E (cy Y) ⟨.callv (.v 3) [(.l 0)], .push, none, false, 5, (some 0)⟩) k)))
  (zCond (.l 0) (zSeq (zReg fun k => (zDst (.var 5) (vMv (.v 4))) k)
  zRet) zSkip))))
  (zReg fun k => (zDst .push (vInt E fAdd .add 3 false true (.v 1) (.k (.int .i64 1)))) ((zDst (.var 1) (vMv (.l 0))) k))))))))
  (zSeq (zReg fun k => (zDst (.var 5) (vMv (.k (.int .i64 (-1))))) k)
  zRet))), [.tmp (.v 5)]⟩
theorem G114_ok (fn : Nat → Option Func) (pu : Nat → Bool) (pr : Nat → List AV → Option (Heap → Option (Eff × Acc))) : ZOk ⟨Tryz.tyT, fn, pu, pr⟩ npT F114 (G114 ⟨Tryz.tyT, fn, pu, pr⟩) := ⟨rfl, rfl, rfl, fun cy Y k => by kernel_rfl⟩
noncomputable def F115 : FFn := ⟨4, [0, 1, 2], (.seq (.reg [⟨.box 27 (.v 0), (.var 1), none, false, 0, (some 0)⟩,
    ⟨.mv (.k .nilFunc), (.var 2), none, true, 1, none⟩]) (.seq (.reg [⟨.mkFunc 138 [(.v 1)], .push, none, false, 0, none⟩,
    ⟨.mv (.l 0), (.var 2), none, true, 1, none⟩]) .ret)), [.tmp (.v 2)]⟩
noncomputable def G115 (E : Env) : ZFn := ⟨4, [0, 1, 2], fun cy Y fuel =>
  (zSeq (zReg fun k => (zStep E (cy Y) ⟨.box 27 (.v 0), (.var 1), none, false, 0, (some 0)⟩) ((zDst (.var 2) (vMv (.k .nilFunc))) k))
  (zSeq (zReg fun k => (zStep E (cy Y) ⟨.mkFunc 138 [(.v 1)], .push, none, false, 0, none⟩) ((zDst (.var 2) (vMv (.l 0))) k))
  zRet)), [.tmp (.v 2)]⟩
theorem G115_ok (fn : Nat → Option Func) (pu : Nat → Bool) (pr : Nat → List AV → Option (Heap → Option (Eff × Acc))) : ZOk ⟨Tryz.tyT, fn, pu, pr⟩ npT F115 (G115 ⟨Tryz.tyT, fn, pu, pr⟩) := ⟨rfl, rfl, rfl, fun cy Y k => by kernel_rfl⟩
noncomputable def F116 : FFn := ⟨8, [0, 1, 4], (.seq (.reg [⟨.mv (.k (.int .i64 0)), (.var 2), none, true, 0, none⟩]) (.seq (.reg [⟨.call 139 [(.v 0), (.v 1), (.k (.clo 140 []))], .push, none, false, 2, (some 0)⟩,
    ⟨.mv (.l 0), (.var 2), none, true, 3, none⟩]) .ret)), [.tmp (.v 2)]⟩
noncomputable def G116 (E : Env) : ZFn := ⟨8, [0, 1, 4], fun cy Y fuel =>
  (zSeq (zReg fun k => (zDst (.var 2) (vMv (.k (.int .i64 0)))) k)
  (zSeq (zReg fun k => (zCall (cy Y) 139 [(.v 0), (.v 1), (.k (.clo 140 []))] .push) ((zDst (.var 2) (vMv (.l 0))) k))
  zRet)), [.tmp (.v 2)]⟩
theorem G116_ok (fn : Nat → Option Func) (pu : Nat → Bool) (pr : Nat → List AV → Option (Heap → Option (Eff × Acc))) : ZOk ⟨Tryz.tyT, fn, pu, pr⟩ npT F116 (G116 ⟨Tryz.tyT, fn, pu, pr⟩) := ⟨rfl, rfl, rfl, fun cy Y k => by kernel_rfl⟩
noncomputable def F117 : FFn := ⟨21, [0, 1, 5, 4], (.seq (.reg [⟨.mv (.k (.int .i64 0)), (.var 3), none, true, 0, none⟩]) (.seq (.reg [⟨.call 36 [(.v 0), (.v 1)], .push, none, false, 2, (some 0)⟩,
    ⟨.mv (.l 0), (.var 2), none, true, 3, none⟩]) (.seq (.block 0 (.seq (.reg [⟨.call 25 [(.v 0), (.v 1)], .push, none, false, 2, (some 0)⟩,
    ⟨.mv (.l 0), .push, none, true, 3, none⟩]) (.cond (.l 0) (.seq (.reg [⟨.mv (.k (.int .i64 0)), (.var 3), none, true, 0, none⟩]) .ret) (.seq (.reg [⟨.call 25 [(.v 2), (.v 1)], .push, none, false, 2, (some 0)⟩,
    ⟨.mv (.l 0), .push, none, true, 3, none⟩]) (.cond (.l 0) (.seq (.reg [⟨.mv (.k (.int .i64 (-1))), (.var 3), none, true, 0, none⟩]) .ret) (.seq (.reg [⟨.call 25 [(.v 2), (.v 0)], .push, none, false, 2, (some 0)⟩,
    ⟨.mv (.l 0), .push, none, true, 3, none⟩]) (.cond (.l 0) (.seq (.reg [⟨.mv (.k (.int .i64 1)), (.var 3), none, true, 0, none⟩]) .ret) .skip))))))) (.seq (.reg [⟨.mv (.k (.int .i64 2)), (.var 3), none, true, 0, none⟩]) .ret)))), [.tmp (.v 3)]⟩
noncomputable def G117 (E : Env) : ZFn := ⟨21, [0, 1, 5, 4], fun cy Y fuel =>
  (zSeq (zReg fun k => (zDst (.var 3) (vMv (.k (.int .i64 0)))) k)
  (zSeq (zReg fun k => (zCall (cy Y) 36 [(.v 0), (.v 1)] .push) ((zDst (.var 2) (vMv (.l 0))) k))
  (zSeq (zBlock 0 (zSeq (zReg fun k => (zCall (cy Y) 25 [(.v 0), (.v 1)] .push) ((zDst .push (vMv (.l 0))) k))
  (zCond (.l 0) (zSeq (zReg fun k => (zDst (.var 3) (vMv (.k (.int .i64 0)))) k)
  zRet) (zSeq (zReg fun k => (zCall (cy Y) 25 [(.v 2), (.v 1)] .push) ((zDst .push (vMv (.l 0))) k))
  (zCond (.l 0) (zSeq (zReg fun k => (zDst (.var 3) (vMv (.k (.int .i64 (-1))))) k)
  zRet) (zSeq (zReg fun k => (zCall (cy Y) 25 [(.v 2), (.v 0)] .push) ((zDst .push (vMv (.l 0))) k))
  (zCond (.l 0) (zSeq (zReg fun k => (zDst (.var 3) (vMv (.k (.int .i64 1)))) k)
  zRet) zSkip)))))))
  (zSeq (zReg fun k => (zDst (.var 3) (vMv (.k (.int .i64 2)))) k)
  zRet)))), [.tmp (.v 3)]⟩
theorem G117_ok (fn : Nat → Option Func) (pu : Nat → Bool) (pr : Nat → List AV → Option (Heap → Option (Eff × Acc))) : ZOk ⟨Tryz.tyT, fn, pu, pr⟩ npT F117 (G117 ⟨Tryz.tyT, fn, pu, pr⟩) := ⟨rfl, rfl, rfl, fun cy Y k => by kernel_rfl⟩
noncomputable def F118 : FFn := ⟨26, [0, 1, 13, 12, 5, 4], (.seq (.reg [⟨.mv (.k (.bool false)), (.var 5), none, true, 0, none⟩]) (.seq (.seq (.reg [⟨.len 26 (.v 0), .push, none, false, 1, none⟩,
    ⟨.len 26 (.v 1), .push, none, false, 3, none⟩,
    ⟨.bin .neq 3 false false (.l 1) (.l 0), .push, none, false, 4, none⟩]) (.cond (.l 0) (.seq (.reg [⟨.mv (.k (.bool false)), (.var 5), none, true, 0, none⟩]) .ret) .skip)) (.seq (.seq (.reg [⟨.len 26 (.v 0), (.var 3), none, false, 1, none⟩,
    ⟨.mv (.k (.int .i64 0)), (.var 2), none, true, 2, none⟩]) (.block 0 (.loop (.seq (.reg [⟨.bin .lss 3 false false (.v 2) (.v 3), .push, none, false, 0, none⟩]) (.seq (.cond (.l 0) .skip (.exit 0)) (.seq (.block 1 (.seq (.reg [⟨.mv (.v 2), (.var 4), none, true, 1, none⟩]) (.seq (.dreg 0 [0, 0, 3, 7, 0, 0, 48, 112, 255] [⟨.indexAddr 26 (.v 0) (.v 4), .push, none, true, 2, none⟩,
    ⟨.load 9 (.l 0), .push, none, true, 3, none⟩,
    ⟨.indexAddr 26 (.v 1) (.v 4), .push, none, true, 6, none⟩,
    ⟨.load 9 (.l 0), .push, none, true, 7, none⟩,
    ⟨.bin .neq 9 false false (.l 2) (.l 0), .push, none, false, 8, none⟩]) (.cond (.l 0) (.seq (.reg [⟨.mv (.k (.bool false)), (.var 5), none, true, 0, none⟩]) .ret) .skip)))) (.reg [⟨.bin .add 3 false true (.v 2) (.k (.int .i64 1)), .push, none, false, 0, none⟩,
    ⟨.mv (.l 0), (.var 2), none, true, 1, none⟩]))))))) (.seq (.reg [⟨.mv (.k (.bool true)), (.var 5), none, true, 0, none⟩]) .ret)))), [.tmp (.v 5)]⟩
noncomputable def G118 (E : Env) : ZFn := ⟨26, [0, 1, 13, 12, 5, 4], fun cy Y fuel =>
  (zSeq (zReg fun k => (zDst (.var 5) (vMv (.k (.bool false)))) k)
  (zSeq (zSeq (zReg fun k => (zDst .push (vLenL (.v 0))) ((zDst .push (vLenL (.v 1))) ((zDst .push (vInt E fNeq .neq 3 false false (.l 1) (.l 0))) k)))
  (zCond (.l 0) (zSeq (zReg fun k => (zDst (.var 5) (vMv (.k (.bool false)))) k)
  zRet) zSkip))
  (zSeq (zSeq (zReg fun k => (zDst (.var 3) (vLenL (.v 0))) ((zDst (.var 2) (vMv (.k (.int .i64 0)))) k))
  (zBlock 0 (zLoop fuel (zSeq (zReg fun k => (zDst .push (vInt E fLss .lss 3 false false (.v 2) (.v 3))) k)
  (zSeq (zCond (.l 0) zSkip (zExit 0))
  (zSeq (zBlock 1 (zSeq (zReg fun k => (zDst (.var 4) (vMv (.v 2))) k)
  (zSeq (zDreg 0 fun n0 k => (fun k sp => zDst .push (vIndexAddr 1 (.v 0) (.v 4)) (k sp)) ((zDstWD [0, 0, 3, 7, 0, 0, 48, 112, 255] 3 .push (wLoad 1 false (.l 0))) ((fun k sp => zDst .push (vIndexAddr 1 (.v 1) (.v 4)) (k sp)) ((zDstWD [0, 0, 3, 7, 0, 0, 48, 112, 255] 7 .push (wLoad 1 false (.l 0))) ((fun k sp => zDst .push (vInt E fNeq .neq 9 false false (.l 2) (.l 0)) (k sp)) k)))))
  (zCond (.l 0) (zSeq (zReg fun k => (zDst (.var 5) (vMv (.k (.bool false)))) k)
  zRet) zSkip))))
  (zReg fun k => (zDst .push (vInt E fAdd .add 3 false true (.v 2) (.k (.int .i64 1)))) ((zDst (.var 2) (vMv (.l 0))) k))))))))
  (zSeq (zReg fun k => (zDst (.var 5) (vMv (.k (.bool true)))) k)
  zRet)))), [.tmp (.v 5)]⟩
theorem G118_ok (fn : Nat → Option Func) (pu : Nat → Bool) (pr : Nat → List AV → Option (Heap → Option (Eff × Acc))) : ZOk ⟨Tryz.tyT, fn, pu, pr⟩ npT F118 (G118 ⟨Tryz.tyT, fn, pu, pr⟩) := ⟨rfl, rfl, rfl, fun cy Y k => by kernel_rfl⟩
noncomputable def F119 : FFn := ⟨11, [0, 1, 2, 6], (.seq (.reg [⟨.mv (.k (.bool false)), (.var 3), none, true, 0, none⟩]) (.seq (.reg [⟨.call 143 [(.v 0), (.v 1), (.v 2)], .push, none, false, 3, (some 0)⟩,
    ⟨.mv (.l 0), (.var 3), none, true, 4, none⟩]) .ret)), [.tmp (.v 3)]⟩
noncomputable def G119 (E : Env) : ZFn := ⟨11, [0, 1, 2, 6], fun cy Y fuel =>
  (zSeq (zReg fun k => (zDst (.var 3) (vMv (.k (.bool false)))) k)
  (zSeq (zReg fun k => (zCall (cy Y) 143 [(.v 0), (.v 1), (.v 2)] .push) ((zDst (.var 3) (vMv (.l 0))) k))
  zRet)), [.tmp (.v 3)]⟩
theorem G119_ok (fn : Nat → Option Func) (pu : Nat → Bool) (pr : Nat → List AV → Option (Heap → Option (Eff × Acc))) : ZOk ⟨Tryz.tyT, fn, pu, pr⟩ npT F119 (G119 ⟨Tryz.tyT, fn, pu, pr⟩) := ⟨rfl, rfl, rfl, fun cy Y k => by kernel_rfl⟩
noncomputable def F121 : FFn := ⟨25, [5, 0, 1, 4], (.seq (.reg [⟨.mv (.k (.bool false)), (.var 3), none, true, 0, none⟩]) (.seq (.seq (.reg [⟨.mv (.k (.int .i64 0)), (.var 0), none, true, 0, none⟩]) (.block 0 (.loop (.seq (.seq (.reg [⟨.len 58 (.v 1), .push, none, false, 2, none⟩,
    ⟨.bin .lss 3 false false (.v 0) (.l 0), .push, none, false, 3, none⟩]) (.cond (.l 0) .skip (.exit 0))) (.seq (.block 1 (.seq (.dreg 1 [0, 0, 3, 7, 15, 0, 0, 0, 192, 448, 960, 2016, 4095] [⟨.indexAddr 58 (.v 1) (.v 0), .push, none, true, 2, none⟩,
    ⟨.fieldAddr 57 (.l 0) 1, .push, none, true, 3, none⟩,
    ⟨.load 25 (.l 0), .push, none, true, 4, none⟩,
    ⟨.indexAddr 58 (.v 1) (.v 0), .push, none, true, 8, none⟩,
    ⟨.fieldAddr 57 (.l 0) 0, .push, none, true, 9, none⟩,
    ⟨.load 3 (.l 0), .push, none, true, 10, none⟩,
    ⟨.call 145 [(.v 2), (.l 0)], .push, none, false, 11, (some 0)⟩,
    ⟨.bin .gtr 25 false false (.l 4) (.l 0), .push, none, false, 12, none⟩]) (.cond (.l 0) (.seq (.reg [⟨.mv (.k (.bool false)), (.var 3), none, true, 0, none⟩]) .ret) .skip))) (.reg [⟨.mv (.v 0), .push, none, true, 0, none⟩,
    ⟨.bin .add 3 false true (.l 0) (.k (.int .i64 1)), .push, none, false, 1, none⟩,
    ⟨.mv (.l 0), (.var 0), none, true, 2, none⟩])))))) (.seq (.reg [⟨.mv (.k (.bool true)), (.var 3), none, true, 0, none⟩]) .ret))), [.tmp (.v 3)]⟩
noncomputable def G121 (E : Env) : ZFn := ⟨25, [5, 0, 1, 4], fun cy Y fuel =>
  (zSeq (zReg fun k => (zDst (.var 3) (vMv (.k (.bool false)))) k)
  (zSeq (zSeq (zReg fun k => (zDst (.var 0) (vMv (.k (.int .i64 0)))) k)
  (zBlock 0 (zLoop fuel (zSeq (zSeq (zReg fun k => (zDst .push (vLenL (.v 1))) ((zDst .push (vInt E fLss .lss 3 false false (.v 0) (.l 0))) k))
  (zCond (.l 0) zSkip (zExit 0)))
  (zSeq (zBlock 1 (zSeq (zDreg 1 fun n0 k => (fun k sp => zDst .push (vIndexAddr 2 (.v 1) (.v 0)) (k sp)) ((fun k sp => zDst .push (vFieldAddr 1 (.l 0)) (k sp)) ((zDstWD [0, 0, 3, 7, 15, 0, 0, 0, 192, 448, 960, 2016, 4095] 4 .push (wLoad 1 false (.l 0))) ((fun k sp => zDst .push (vIndexAddr 2 (.v 1) (.v 0)) (k sp)) ((fun k sp => zDst .push (vFieldAddr 0 (.l 0)) (k sp)) ((zDstWD [0, 0, 3, 7, 15, 0, 0, 0, 192, 448, 960, 2016, 4095] 10 .push (wLoad 1 false (.l 0))) ((zCallD (cy Y) [0, 0, 3, 7, 15, 0, 0, 0, 192, 448, 960, 2016, 4095] 11 145 [(.v 2), (.l 0)] .push) ((fun k sp => zDst .push (vInt E fGtr .gtr 25 false false (.l 4) (.l 0)) (k sp)) k))))))))
  (zCond (.l 0) (zSeq (zReg fun k => (zDst (.var 3) (vMv (.k (.bool false)))) k)
  zRet) zSkip)))
  (zReg fun k => (zDst .push (vMv (.v 0))) ((zDst .push (vInt E fAdd .add 3 false true (.l 0) (.k (.int .i64 1)))) ((zDst (.var 0) (vMv (.l 0))) k))))))))
  (zSeq (zReg fun k => (zDst (.var 3) (vMv (.k (.bool true)))) k)
  zRet))), [.tmp (.v 3)]⟩
theorem G121_ok (fn : Nat → Option Func) (pu : Nat → Bool) (pr : Nat → List AV → Option (Heap → Option (Eff × Acc))) : ZOk ⟨Tryz.tyT, fn, pu, pr⟩ npT F121 (G121 ⟨Tryz.tyT, fn, pu, pr⟩) := ⟨rfl, rfl, rfl, fun cy Y k => by kernel_rfl⟩
noncomputable def F128 : FFn := ⟨28, [0, 1, 2], (.seq (.reg [⟨.box 30 (.v 0), (.var 1), none, false, 0, (some 0)⟩,
    ⟨.mv (.k (.bool false)), (.var 2), none, true, 1, none⟩]) (.seq (.reg [⟨.fieldAddr 30 (.v 1) 2, .push, none, true, 0, none⟩,
    ⟨.load 26 (.l 0), .push, none, true, 1, none⟩,
    ⟨.len 26 (.l 0), .push, none, false, 2, none⟩,
    ⟨.fieldAddr 30 (.v 1) 3, .push, none, true, 3, none⟩,
    ⟨.load 27 (.l 0), .push, none, true, 4, none⟩,
    ⟨.len 27 (.l 0), .push, none, false, 5, none⟩,
    ⟨.fieldAddr 30 (.v 1) 4, .push, none, true, 6, none⟩,
    ⟨.load 28 (.l 0), .push, none, true, 7, none⟩,
    ⟨.len 28 (.l 0), .push, none, false, 8, none⟩,
    ⟨.most true [(.l 6), (.l 3), (.l 0)], .push, none, false, 9, none⟩,
    ⟨.bin .gtr 3 false true (.l 0) (.k (.int .i64 40)), .push, none, false, 10, none⟩,
    ⟨.fieldAddr 30 (.v 1) 3, .push, (some ((.l 0), false)), true, 12, none⟩,
    ⟨.load 27 (.l 0), .push, (some ((.l 1), false)), true, 13, none⟩,
    ⟨.len 27 (.l 0), .push, (some ((.l 2), false)), false, 14, none⟩,
    ⟨.bin .eql 3 false true (.l 0) (.k (.int .i64 1)), .push, (some ((.l 3), false)), false, 15, none⟩,
    ⟨.mv (.l 0), .push, (some ((.l 4), false)), true, 16, none⟩,
    ⟨.fieldAddr 30 (.v 1) 3, .push, (some ((.l 0), true)), true, 17, none⟩,
    ⟨.load 27 (.l 0), .push, (some ((.l 1), true)), true, 18, none⟩,
    ⟨.indexAddr 27 (.l 0) (.k (.int .i64 0)), .push, (some ((.l 2), true)), true, 19, none⟩,
    ⟨.load 58 (.l 0), .push, (some ((.l 3), true)), true, 20, none⟩,
    ⟨.len 58 (.l 0), .push, (some ((.l 4), true)), false, 21, none⟩,
    ⟨.bin .gtr 3 false true (.l 0) (.k (.int .i64 40)), .push, (some ((.l 5), true)), false, 22, none⟩,
    ⟨.pick (.l 6) (.l 0) (.k (.bool false)), .push, (some ((.l 11), false)), true, 23, none⟩,
    ⟨.pick (.l 12) (.k (.bool true)) (.l 0), .push, none, true, 24, none⟩,
    ⟨.mv (.l 0), (.var 2), none, true, 25, none⟩]) .ret)), [.tmp (.v 2)]⟩
noncomputable def G128 (E : Env) : ZFn := ⟨28, [0, 1, 2], fun cy Y fuel =>
  (zSeq (zReg fun k => (zStep E (cy Y) ⟨.box 30 (.v 0), (.var 1), none, false, 0, (some 0)⟩) ((zDst (.var 2) (vMv (.k (.bool false)))) k))
  (zSeq (zReg fun k => (zDst .push (vFieldAddr 2 (.v 1))) ((zDstW .push (wLoad 1 false (.l 0))) ((zDst .push (vLenL (.l 0))) ((zDst .push (vFieldAddr 3 (.v 1))) ((zDstW .push (wLoad 1 false (.l 0))) ((zDst .push (vLenL (.l 0))) ((zDst .push (vFieldAddr 4 (.v 1))) ((zDstW .push (wLoad 1 false (.l 0))) ((zDst .push (vLenL (.l 0))) ((zStep E (cy Y) ⟨.most true [(.l 6), (.l 3), (.l 0)], .push, none, false, 9, none⟩) ((zDst .push (vInt E fGtr .gtr 3 false true (.l 0) (.k (.int .i64 40)))) ((zG (.l 0) false .push (zDst .push (vFieldAddr 3 (.v 1)))) ((zG (.l 1) false .push (zDstW .push (wLoad 1 false (.l 0)))) ((zG (.l 2) false .push (zDst .push (vLenL (.l 0)))) ((zG (.l 3) false .push (zDst .push (vInt E fEql .eql 3 false true (.l 0) (.k (.int .i64 1))))) ((zG (.l 4) false .push (zDst .push (vMv (.l 0)))) ((zG (.l 0) true .push (zDst .push (vFieldAddr 3 (.v 1)))) ((zG (.l 1) true .push (zDstW .push (wLoad 1 false (.l 0)))) ((zG (.l 2) true .push (zDst .push (vIndexAddr 1 (.l 0) (.k (.int .i64 0))))) ((zG (.l 3) true .push (zDstW .push (wLoad 1 false (.l 0)))) ((zG (.l 4) true .push (zDst .push (vLenL (.l 0)))) ((zG (.l 5) true .push (zDst .push (vInt E fGtr .gtr 3 false true (.l 0) (.k (.int .i64 40))))) ((zG (.l 11) false .push (zDst .push (vPick (.l 6) (.l 0) (.k (.bool false))))) ((zDst .push (vPick (.l 12) (.k (.bool true)) (.l 0))) ((zDst (.var 2) (vMv (.l 0))) k)))))))))))))))))))))))))
  zRet)), [.tmp (.v 2)]⟩
theorem G128_ok (fn : Nat → Option Func) (pu : Nat → Bool) (pr : Nat → List AV → Option (Heap → Option (Eff × Acc))) : ZOk ⟨Tryz.tyT, fn, pu, pr⟩ npT F128 (G128 ⟨Tryz.tyT, fn, pu, pr⟩) := ⟨rfl, rfl, rfl, fun cy Y k => by kernel_rfl⟩
noncomputable def F129 : FFn := ⟨6, [0, 2], (.seq (.reg [⟨.mv (.k (.bool false)), (.var 1), none, true, 0, none⟩]) (.seq (.reg [⟨.bin .neq 3 false false (.v 0) (.v 0), .push, none, false, 2, none⟩,
    ⟨.mv (.l 0), (.var 1), none, true, 3, none⟩]) .ret)), [.tmp (.v 1)]⟩
noncomputable def G129 (E : Env) : ZFn := ⟨6, [0, 2], fun cy Y fuel =>
  (zSeq (zReg fun k => (zDst (.var 1) (vMv (.k (.bool false)))) k)
  (zSeq (zReg fun k => (zDst .push (vInt E fNeq .neq 3 false false (.v 0) (.v 0))) ((zDst (.var 1) (vMv (.l 0))) k))
  zRet)), [.tmp (.v 1)]⟩
theorem G129_ok (fn : Nat → Option Func) (pu : Nat → Bool) (pr : Nat → List AV → Option (Heap → Option (Eff × Acc))) : ZOk ⟨Tryz.tyT, fn, pu, pr⟩ npT F129 (G129 ⟨Tryz.tyT, fn, pu, pr⟩) := ⟨rfl, rfl, rfl, fun cy Y k => by kernel_rfl⟩
noncomputable def F136 : FFn := ⟨4, [0, 1, 2], (.seq (.reg [⟨.box 164 (.v 0), (.var 1), none, false, 0, (some 0)⟩,
    ⟨.mv (.k .nilFunc), (.var 2), none, true, 1, none⟩]) (.seq (.reg [⟨.mkFunc 159 [(.v 1)], .push, none, false, 0, none⟩,
    ⟨.mv (.l 0), (.var 2), none, true, 1, none⟩]) .ret)), [.tmp (.v 2)]⟩
noncomputable def G136 (E : Env) : ZFn := ⟨4, [0, 1, 2], fun cy Y fuel =>
  (zSeq (zReg fun k => (zStep E (cy Y) ⟨.box 164 (.v 0), (.var 1), none, false, 0, (some 0)⟩) ((zDst (.var 2) (vMv (.k .nilFunc))) k))
  (zSeq (zReg fun k => (zStep E (cy Y) ⟨.mkFunc 159 [(.v 1)], .push, none, false, 0, none⟩) ((zDst (.var 2) (vMv (.l 0))) k))
  zRet)), [.tmp (.v 2)]⟩
theorem G136_ok (fn : Nat → Option Func) (pu : Nat → Bool) (pr : Nat → List AV → Option (Heap → Option (Eff × Acc))) : ZOk ⟨Tryz.tyT, fn, pu, pr⟩ npT F136 (G136 ⟨Tryz.tyT, fn, pu, pr⟩) := ⟨rfl, rfl, rfl, fun cy Y k => by kernel_rfl⟩
noncomputable def F137 : FFn := ⟨19, [0, 8, 7, 1, 5, 4], (.seq (.reg [⟨.mv (.k (.int .i64 0)), (.var 5), none, true, 0, none⟩]) (.seq (.seq (.reg [⟨.len 26 (.v 0), (.var 2), none, false, 1, none⟩,
    ⟨.mv (.k (.int .i64 0)), (.var 1), none, true, 2, none⟩]) (.block 0 (.loop (.seq (.reg [⟨.bin .lss 3 false false (.v 1) (.v 2), .push, none, false, 0, none⟩]) (.seq (.cond (.l 0) .skip (.exit 0)) (.seq (.block 1 (.seq (.reg [⟨.mv (.v 1), (.var 4), none, true, 1, none⟩]) (.seq (.reg [⟨.indexAddr 26 (.v 0) (.v 4), .push, none, true, 3, none⟩,
    ⟨.load 9 (.l 0), .push, none, true, 4, none⟩,
    ⟨.callv (.v 3) [(.l 0)], .push, none, false, 5, (some 0)⟩]) (.cond (.l 0) (.seq (.reg [⟨.mv (.v 4), (.var 5), none, true, 1, none⟩]) .ret) .skip)))) (.reg [⟨.bin .add 3 false true (.v 1) (.k (.int .i64 1)), .push, none, false, 0, none⟩,
    ⟨.mv (.l 0), (.var 1), none, true, 1, none⟩]))))))) (.seq (.reg [⟨.mv (.k (.int .i64 (-1))), (.var 5), none, true, 0, none⟩]) .ret))), [.tmp (.v 5)]⟩
noncomputable def G137 (E : Env) : ZFn := ⟨19, [0, 8, 7, 1, 5, 4], fun cy Y fuel =>
  (zSeq (zReg fun k => (zDst (.var 5) (vMv (.k (.int .i64 0)))) k)
  (zSeq (zSeq (zReg fun k => (zDst (.var 2) (vLenL (.v 0))) ((zDst (.var 1) (vMv (.k (.int .i64 0)))) k))
  (zBlock 0 (zLoop fuel (zSeq (zReg fun k => (zDst .push (vInt E fLss .lss 3 false false (.v 1) (.v 2))) k)
  (zSeq (zCond (.l 0) zSkip (zExit 0))
  (zSeq (zBlock 1 (zSeq (zReg fun k => (zDst (.var 4) (vMv (.v 1))) k)
  (zSeq (zReg fun k => (zDst .push (vIndexAddr 1 (.v 0) (.v 4))) ((zDstW .push (wLoad 1 false (.l 0))) ((zStep E (cy Y) ⟨.callv (.v 3) [(.l 0)], .push, none, false, 5, (some 0)⟩) k)))
  (zCond (.l 0) (zSeq (zReg fun k => (zDst (.var 5) (vMv (.v 4))) k)
  zRet) zSkip))))
  (zReg fun k => (zDst .push (vInt E fAdd .add 3 false true (.v 1) (.k (.int .i64 1)))) ((zDst (.var 1) (vMv (.l 0))) k))))))))
  (zSeq (zReg fun k => (zDst (.var 5) (vMv (.k (.int .i64 (-1))))) k)
  zRet))), [.tmp (.v 5)]⟩
theorem G137_ok (fn : Nat → Option Func) (pu : Nat → Bool) (pr : Nat → List AV → Option (Heap → Option (Eff × Acc))) : ZOk ⟨Tryz.tyT, fn, pu, pr⟩ npT F137 (G137 ⟨Tryz.tyT, fn, pu, pr⟩) := ⟨rfl, rfl, rfl, fun cy Y k => by kernel_rfl⟩
noncomputable def F138 : FFn := ⟨30, [1, 7, 6, 3, 4, 0], (.seq (.reg [⟨.load 27 (.v 0), .push, none, true, 0, none⟩,
    ⟨.len 27 (.l 0), (.var 2), none, false, 1, none⟩,
    ⟨.mv (.k (.int .i64 0)), (.var 1), none, true, 2, none⟩]) (.block 0 (.loop (.seq (.reg [⟨.bin .lss 3 false false (.v 1) (.v 2), .push, none, false, 0, none⟩]) (.seq (.cond (.l 0) .skip (.exit 0)) (.seq (.block 1 (.seq (.reg [⟨.mv (.v 1), (.var 3), none, true, 1, none⟩]) (.seq (.reg [⟨.bin .add 3 false true (.v 3) (.k (.int .i64 1)), .push, none, false, 1, none⟩,
    ⟨.mv (.l 0), (.var 4), none, true, 2, none⟩]) (.block 2 (.loop (.seq (.seq (.reg [⟨.load 27 (.v 0), .push, none, true, 1, none⟩,
    ⟨.len 27 (.l 0), .push, none, false, 2, none⟩,
    ⟨.bin .lss 3 false false (.v 4) (.l 0), .push, none, false, 3, none⟩]) (.cond (.l 0) .skip (.exit 2))) (.seq (.block 3 (.seq (.dreg 1 [0, 0, 0, 6, 14, 0, 0, 96, 224, 511, 1023] [⟨.load 27 (.v 0), .push, none, true, 1, none⟩,
    ⟨.indexAddr 27 (.l 0) (.v 3), .push, none, true, 3, none⟩,
    ⟨.load 58 (.l 0), .push, none, true, 4, none⟩,
    ⟨.load 27 (.v 0), .push, none, true, 5, none⟩,
    ⟨.indexAddr 27 (.l 0) (.v 4), .push, none, true, 7, none⟩,
    ⟨.load 58 (.l 0), .push, none, true, 8, none⟩,
    ⟨.callv (.v 5) [(.l 3), (.l 0)], .push, none, false, 9, (some 0)⟩,
    ⟨.un .not (.l 0), .push, none, false, 10, none⟩]) (.cond (.l 0) .ret .skip))) (.reg [⟨.mv (.v 4), .push, none, true, 0, none⟩,
    ⟨.bin .add 3 false true (.l 0) (.k (.int .i64 1)), .push, none, false, 1, none⟩,
    ⟨.mv (.l 0), (.var 4), none, true, 2, none⟩])))))))) (.reg [⟨.bin .add 3 false true (.v 1) (.k (.int .i64 1)), .push, none, false, 0, none⟩,
    ⟨.mv (.l 0), (.var 1), none, true, 1, none⟩]))))))), []⟩
noncomputable def G138 (E : Env) : ZFn := ⟨30, [1, 7, 6, 3, 4, 0], fun cy Y fuel =>
  (zSeq (zReg fun k => (zDstW .push (wLoad 1 false (.v 0))) ((zDst (.var 2) (vLenL (.l 0))) ((zDst (.var 1) (vMv (.k (.int .i64 0)))) k)))
  (zBlock 0 (zLoop fuel (zSeq (zReg fun k => (zDst .push (vInt E fLss .lss 3 false false (.v 1) (.v 2))) k)
  (zSeq (zCond (.l 0) zSkip (zExit 0))
  (zSeq (zBlock 1 (zSeq (zReg fun k => (zDst (.var 3) (vMv (.v 1))) k)
  (zSeq (zReg fun k => (zDst .push (vInt E fAdd .add 3 false true (.v 3) (.k (.int .i64 1)))) ((zDst (.var 4) (vMv (.l 0))) k))
  (zBlock 2 (zLoop fuel (zSeq (zSeq (zReg fun k => (zDstW .push (wLoad 1 false (.v 0))) ((zDst .push (vLenL (.l 0))) ((zDst .push (vInt E fLss .lss 3 false false (.v 4) (.l 0))) k)))
  (zCond (.l 0) zSkip (zExit 2)))
  (zSeq (zBlock 3 (zSeq (zDreg 1 fun n0 k => (zDstWD [0, 0, 0, 6, 14, 0, 0, 96, 224, 511, 1023] 1 .push (wLoad 1 false (.v 0))) ((fun k sp => zDst .push (vIndexAddr 1 (.l 0) (.v 3)) (k sp)) ((zDstWD [0, 0, 0, 6, 14, 0, 0, 96, 224, 511, 1023] 4 .push (wLoad 1 false (.l 0))) ((zDstWD [0, 0, 0, 6, 14, 0, 0, 96, 224, 511, 1023] 5 .push (wLoad 1 false (.v 0))) ((fun k sp => zDst .push (vIndexAddr 1 (.l 0) (.v 4)) (k sp)) ((zDstWD [0, 0, 0, 6, 14, 0, 0, 96, 224, 511, 1023] 8 .push (wLoad 1 false (.l 0))) ((zStepD E (cy Y) [0, 0, 0, 6, 14, 0, 0, 96, 224, 511, 1023] n0 ⟨.callv (.v 5) [(.l 3), (.l 0)], .push, none, false, 9, (some 0)⟩) ((fun k sp => zDst .push (vNot (.l 0)) (k sp)) k))))))))
  (zCond (.l 0) zRet zSkip)))
  (zReg fun k => (zDst .push (vMv (.v 4))) ((zDst .push (vInt E fAdd .add 3 false true (.l 0) (.k (.int .i64 1)))) ((zDst (.var 4) (vMv (.l 0))) k))))))))))
  (zReg fun k => (zDst .push (vInt E fAdd .add 3 false true (.v 1) (.k (.int .i64 1)))) ((zDst (.var 1) (vMv (.l 0))) k)))))))), []⟩
theorem G138_ok (fn : Nat → Option Func) (pu : Nat → Bool) (pr : Nat → List AV → Option (Heap → Option (Eff × Acc))) : ZOk ⟨Tryz.tyT, fn, pu, pr⟩ npT F138 (G138 ⟨Tryz.tyT, fn, pu, pr⟩) := ⟨rfl, rfl, rfl, fun cy Y k => by kernel_rfl⟩
noncomputable def F139 : FFn := ⟨39, [0, 13, 12, 11, 7, 1, 2, 8, 9, 10, 6], (.seq (.reg [⟨.mv (.k (.int .i64 0)), (.var 10), none, true, 0, none⟩]) (.seq (.seq (.reg [⟨.mv (.v 0), (.var 3), none, true, 0, none⟩,
    ⟨.len 58 (.v 3), (.var 2), none, false, 1, none⟩,
    ⟨.mv (.k (.int .i64 0)), (.var 1), none, true, 2, none⟩]) (.block 0 (.loop (.seq (.reg [⟨.bin .lss 3 false false (.v 1) (.v 2), .push, none, false, 0, none⟩]) (.seq (.cond (.l 0) .skip (.exit 0)) (.seq (.block 1 (.seq (.reg [⟨.indexAddr 58 (.v 3) (.v 1), .push, none, true, 1, none⟩,
    ⟨.load 57 (.l 0), .push, none, true, 2, none⟩,
    ⟨.alloc 57, (.var 7), none, false, 3, (some 0)⟩,
    ⟨.mv (.v 1), (.var 4), none, true, 4, none⟩,
    ⟨.store 57 (.v 7) (.l 0), .none, none, false, 5, none⟩]) (.seq (.seq (.reg [⟨.len 58 (.v 5), .push, none, false, 2, none⟩,
    ⟨.bin .geq 3 false false (.v 4) (.l 0), .push, none, false, 3, none⟩]) (.cond (.l 0) (.seq (.reg [⟨.mv (.k (.int .i64 1)), (.var 10), none, true, 0, none⟩]) .ret) .skip)) (.seq (.reg [⟨.indexAddr 58 (.v 5) (.v 4), .push, none, true, 2, none⟩,
    ⟨.load 57 (.l 0), .push, none, true, 3, none⟩,
    ⟨.alloc 57, (.var 8), none, false, 4, (some 0)⟩,
    ⟨.store 57 (.v 8) (.l 0), .none, none, false, 5, none⟩]) (.seq (.reg [⟨.load 57 (.v 7), .push, none, true, 1, none⟩,
    ⟨.load 57 (.v 8), .push, none, true, 2, none⟩,
    ⟨.callv (.v 6) [(.l 1), (.l 0)], .push, none, false, 3, (some 0)⟩,
    ⟨.mv (.l 0), (.var 9), none, true, 4, none⟩]) (.seq (.reg [⟨.bin .neq 3 false true (.v 9) (.k (.int .i64 0)), .push, none, false, 1, none⟩]) (.cond (.l 0) (.seq (.reg [⟨.mv (.v 9), (.var 10), none, true, 1, none⟩]) .ret) .skip))))))) (.reg [⟨.bin .add 3 false true (.v 1) (.k (.int .i64 1)), .push, none, false, 0, none⟩,
    ⟨.mv (.l 0), (.var 1), none, true, 1, none⟩]))))))) (.seq (.seq (.reg [⟨.len 58 (.v 0), .push, none, false, 1, none⟩,
    ⟨.len 58 (.v 5), .push, none, false, 3, none⟩,
    ⟨.bin .lss 3 false false (.l 1) (.l 0), .push, none, false, 4, none⟩]) (.cond (.l 0) (.seq (.reg [⟨.mv (.k (.int .i64 (-1))), (.var 10), none, true, 0, none⟩]) .ret) .skip)) (.seq (.reg [⟨.mv (.k (.int .i64 0)), (.var 10), none, true, 0, none⟩]) .ret)))), [.tmp (.v 10)]⟩
noncomputable def G139 (E : Env) : ZFn := ⟨39, [0, 13, 12, 11, 7, 1, 2, 8, 9, 10, 6], fun cy Y fuel =>
  (zSeq (zReg fun k => (zDst (.var 10) (vMv (.k (.int .i64 0)))) k)
  (zSeq (zSeq (zReg fun k => (zDst (.var 3) (vMv (.v 0))) ((zDst (.var 2) (vLenL (.v 3))) ((zDst (.var 1) (vMv (.k (.int .i64 0)))) k)))
  (zBlock 0 (zLoop fuel (zSeq (zReg fun k => (zDst .push (vInt E fLss .lss 3 false false (.v 1) (.v 2))) k)
  (zSeq (zCond (.l 0) zSkip (zExit 0))
  (zSeq (zBlock 1 (zSeq (zReg fun k => (zDst .push (vIndexAddr 2 (.v 3) (.v 1))) ((zDstW .push (wLoad 2 true (.l 0))) ((zStep E (cy Y) ⟨.alloc 57, (.var 7), none, false, 3, (some 0)⟩) ((zDst (.var 4) (vMv (.v 1))) ((zStep E (cy Y) ⟨.store 57 (.v 7) (.l 0), .none, none, false, 5, none⟩) k)))))
  (zSeq (zSeq (zReg fun k => (zDst .push (vLenL (.v 5))) ((zDst .push (vInt E (fGen .geq) .geq 3 false false (.v 4) (.l 0))) k))
  (zCond (.l 0) (zSeq (zReg fun k => (zDst (.var 10) (vMv (.k (.int .i64 1)))) k)
  zRet) zSkip))
  (zSeq (zReg fun k => (zDst .push (vIndexAddr 2 (.v 5) (.v 4))) ((zDstW .push (wLoad 2 true (.l 0))) ((zStep E (cy Y) ⟨.alloc 57, (.var 8), none, false, 4, (some 0)⟩) ((zStep E (cy Y) ⟨.store 57 (.v 8) (.l 0), .none, none, false, 5, none⟩) k))))
  (zSeq (zReg fun k => (zDstW .push (wLoad 2 true (.v 7))) ((zDstW .push (wLoad 2 true (.v 8))) ((zStep E (cy Y) ⟨.callv (.v 6) [(.l 1), (.l 0)], .push, none, false, 3, (some 0)⟩) ((zDst (.var 9) (vMv (.l 0))) k))))
  (zSeq (zReg fun k => (zDst .push (vInt E fNeq .neq 3 false true (.v 9) (.k (.int .i64 0)))) k)
  (zCond (.l 0) (zSeq (zReg fun k => (zDst (.var 10) (vMv (.v 9))) k)
  zRet) zSkip)))))))
  (zReg fun k => (zDst .push (vInt E fAdd .add 3 false true (.v 1) (.k (.int .i64 1)))) ((zDst (.var 1) (vMv (.l 0))) k))))))))
  (zSeq (zSeq (zReg fun k => (zDst .push (vLenL (.v 0))) ((zDst .push (vLenL (.v 5))) ((zDst .push (vInt E fLss .lss 3 false false (.l 1) (.l 0))) k)))
  (zCond (.l 0) (zSeq (zReg fun k => (zDst (.var 10) (vMv (.k (.int .i64 (-1))))) k)
  zRet) zSkip))
  (zSeq (zReg fun k => (zDst (.var 10) (vMv (.k (.int .i64 0)))) k)
  zRet)))), [.tmp (.v 10)]⟩
theorem G139_ok (fn : Nat → Option Func) (pu : Nat → Bool) (pr : Nat → List AV → Option (Heap → Option (Eff × Acc))) : ZOk ⟨Tryz.tyT, fn, pu, pr⟩ npT F139 (G139 ⟨Tryz.tyT, fn, pu, pr⟩) := ⟨rfl, rfl, rfl, fun cy Y k => by kernel_rfl⟩
noncomputable def F140 : FFn := ⟨17, [0, 1, 2, 3, 4], (.seq (.reg [⟨.box 57 (.v 0), (.var 2), none, false, 0, (some 0)⟩,
    ⟨.box 57 (.v 1), (.var 3), none, false, 1, (some 1)⟩,
    ⟨.mv (.k (.int .i64 0)), (.var 4), none, true, 2, none⟩]) (.seq (.dreg 4 [0, 1, 0, 4, 15, 0, 32, 0, 128, 511, 1023, 2047, 4095] [⟨.fieldAddr 57 (.v 2) 0, .push, none, true, 0, none⟩,
    ⟨.load 3 (.l 0), .push, none, true, 1, none⟩,
    ⟨.fieldAddr 57 (.v 3) 0, .push, none, true, 2, none⟩,
    ⟨.load 3 (.l 0), .push, none, true, 3, none⟩,
    ⟨.call 96 [(.l 2), (.l 0)], .push, none, false, 4, (some 0)⟩,
    ⟨.fieldAddr 57 (.v 2) 1, .push, none, true, 5, none⟩,
    ⟨.load 25 (.l 0), .push, none, true, 6, none⟩,
    ⟨.fieldAddr 57 (.v 3) 1, .push, none, true, 7, none⟩,
    ⟨.load 25 (.l 0), .push, none, true, 8, none⟩,
    ⟨.call 142 [(.l 2), (.l 0)], .push, none, false, 9, (some 1)⟩,
    ⟨.buildSlice 194 2 [(0, (.l 5)), (1, (.l 0))], .push, none, false, 10, (some 2)⟩,
    ⟨.call 141 [(.l 0)], .push, none, false, 11, (some 3)⟩,
    ⟨.mv (.l 0), (.var 4), none, true, 12, none⟩]) .ret)), [.tmp (.v 4)]⟩
noncomputable def G140 (E : Env) : ZFn := ⟨17, [0, 1, 2, 3, 4], fun cy Y fuel =>
  (zSeq (zReg fun k => (zStep E (cy Y) ⟨.box 57 (.v 0), (.var 2), none, false, 0, (some 0)⟩) ((zStep E (cy Y) ⟨.box 57 (.v 1), (.var 3), none, false, 1, (some 1)⟩) ((zDst (.var 4) (vMv (.k (.int .i64 0)))) k)))
  (zSeq (zDreg 4 fun n0 k => (fun k sp => zDst .push (vFieldAddr 0 (.v 2)) (k sp)) ((zDstWD [0, 1, 0, 4, 15, 0, 32, 0, 128, 511, 1023, 2047, 4095] 1 .push (wLoad 1 false (.l 0))) ((fun k sp => zDst .push (vFieldAddr 0 (.v 3)) (k sp)) ((zDstWD [0, 1, 0, 4, 15, 0, 32, 0, 128, 511, 1023, 2047, 4095] 3 .push (wLoad 1 false (.l 0))) ((zCallD (cy Y) [0, 1, 0, 4, 15, 0, 32, 0, 128, 511, 1023, 2047, 4095] 4 96 [(.l 2), (.l 0)] .push) ((fun k sp => zDst .push (vFieldAddr 1 (.v 2)) (k sp)) ((zDstWD [0, 1, 0, 4, 15, 0, 32, 0, 128, 511, 1023, 2047, 4095] 6 .push (wLoad 1 false (.l 0))) ((fun k sp => zDst .push (vFieldAddr 1 (.v 3)) (k sp)) ((zDstWD [0, 1, 0, 4, 15, 0, 32, 0, 128, 511, 1023, 2047, 4095] 8 .push (wLoad 1 false (.l 0))) ((zCallD (cy Y) [0, 1, 0, 4, 15, 0, 32, 0, 128, 511, 1023, 2047, 4095] 9 142 [(.l 2), (.l 0)] .push) ((zStepD E (cy Y) [0, 1, 0, 4, 15, 0, 32, 0, 128, 511, 1023, 2047, 4095] n0 ⟨.buildSlice 194 2 [(0, (.l 5)), (1, (.l 0))], .push, none, false, 10, (some 2)⟩) ((zCallD (cy Y) [0, 1, 0, 4, 15, 0, 32, 0, 128, 511, 1023, 2047, 4095] 11 141 [(.l 0)] .push) ((fun k sp => zDst (.var 4) (vMv (.l 0)) (k sp)) k)))))))))))))
  zRet)), [.tmp (.v 4)]⟩
theorem G140_ok (fn : Nat → Option Func) (pu : Nat → Bool) (pr : Nat → List AV → Option (Heap → Option (Eff × Acc))) : ZOk ⟨Tryz.tyT, fn, pu, pr⟩ npT F140 (G140 ⟨Tryz.tyT, fn, pu, pr⟩) := ⟨rfl, rfl, rfl, fun cy Y k => by kernel_rfl⟩
noncomputable def F141 : FFn := ⟨18, [0, 8, 7, 6, 5, 3, 2], (.seq (.reg [⟨.mv (.k (.int .i64 0)), (.var 6), none, true, 0, none⟩]) (.seq (.reg [⟨.mv (.k (.int .i64 0)), (.var 5), none, true, 0, none⟩]) (.seq (.seq (.reg [⟨.mv (.v 0), (.var 3), none, true, 0, none⟩,
    ⟨.len 194 (.v 3), (.var 2), none, false, 1, none⟩,
    ⟨.mv (.k (.int .i64 0)), (.var 1), none, true, 2, none⟩]) (.block 0 (.loop (.seq (.reg [⟨.bin .lss 3 false false (.v 1) (.v 2), .push, none, false, 0, none⟩]) (.seq (.cond (.l 0) .skip (.exit 0)) (.seq (.block 1 (.seq (.reg [⟨.indexAddr 194 (.v 3) (.v 1), .push, none, true, 0, none⟩,
    ⟨.load 3 (.l 0), .push, none, true, 1, none⟩,
    ⟨.mv (.l 0), (.var 4), none, true, 2, none⟩]) (.seq (.reg [⟨.bin .neq 3 false false (.v 4) (.v 5), .push, none, false, 2, none⟩]) (.cond (.l 0) (.seq (.reg [⟨.mv (.v 4), (.var 6), none, true, 1, none⟩]) .ret) .skip)))) (.reg [⟨.bin .add 3 false true (.v 1) (.k (.int .i64 1)), .push, none, false, 0, none⟩,
    ⟨.mv (.l 0), (.var 1), none, true, 1, none⟩]))))))) (.seq (.reg [⟨.mv (.v 5), (.var 6), none, true, 1, none⟩]) .ret)))), [.tmp (.v 6)]⟩
noncomputable def G141 (E : Env) : ZFn := ⟨18, [0, 8, 7, 6, 5, 3, 2], fun cy Y fuel =>
  (zSeq (zReg fun k => (zDst (.var 6) (vMv (.k (.int .i64 0)))) k)
  (zSeq (zReg fun k => (zDst (.var 5) (vMv (.k (.int .i64 0)))) k)
  (zSeq (zSeq (zReg fun k => (zDst (.var 3) (vMv (.v 0))) ((zDst (.var 2) (vLenL (.v 3))) ((zDst (.var 1) (vMv (.k (.int .i64 0)))) k)))
  (zBlock 0 (zLoop fuel (zSeq (zReg fun k => (zDst .push (vInt E fLss .lss 3 false false (.v 1) (.v 2))) k)
  (zSeq (zCond (.l 0) zSkip (zExit 0))
  (zSeq (zBlock 1 (zSeq (zReg fun k => (zDst .push (vIndexAddr 1 (.v 3) (.v 1))) ((zDstW .push (wLoad 1 false (.l 0))) ((zDst (.var 4) (vMv (.l 0))) k)))
  (zSeq (zReg fun k => (zDst .push (vInt E fNeq .neq 3 false false (.v 4) (.v 5))) k)
  (zCond (.l 0) (zSeq (zReg fun k => (zDst (.var 6) (vMv (.v 4))) k)
  zRet) zSkip))))
  (zReg fun k => (zDst .push (vInt E fAdd .add 3 false true (.v 1) (.k (.int .i64 1)))) ((zDst (.var 1) (vMv (.l 0))) k))))))))
  (zSeq (zReg fun k => (zDst (.var 6) (vMv (.v 5))) k)
  zRet)))), [.tmp (.v 6)]⟩
theorem G141_ok (fn : Nat → Option Func) (pu : Nat → Bool) (pr : Nat → List AV → Option (Heap → Option (Eff × Acc))) : ZOk ⟨Tryz.tyT, fn, pu, pr⟩ npT F141 (G141 ⟨Tryz.tyT, fn, pu, pr⟩) := ⟨rfl, rfl, rfl, fun cy Y k => by kernel_rfl⟩
noncomputable def F142 : FFn := ⟨20, [0, 1, 5, 6, 4], (.seq (.reg [⟨.mv (.k (.int .i64 0)), (.var 4), none, true, 0, none⟩]) (.seq (.reg [⟨.call 160 [(.v 0)], .push, none, false, 1, (some 0)⟩,
    ⟨.mv (.l 0), (.var 2), none, true, 2, none⟩]) (.seq (.reg [⟨.call 160 [(.v 1)], .push, none, false, 1, (some 0)⟩,
    ⟨.mv (.l 0), (.var 3), none, true, 2, none⟩]) (.seq (.seq (.reg []) (.cond (.v 2) (.seq (.seq (.reg []) (.cond (.v 3) (.seq (.reg [⟨.mv (.k (.int .i64 0)), (.var 4), none, true, 0, none⟩]) .ret) .skip)) (.seq (.reg [⟨.mv (.k (.int .i64 (-1))), (.var 4), none, true, 0, none⟩]) .ret)) .skip)) (.seq (.seq (.reg []) (.cond (.v 3) (.seq (.reg [⟨.mv (.k (.int .i64 1)), (.var 4), none, true, 0, none⟩]) .ret) .skip)) (.seq (.seq (.reg [⟨.bin .lss 25 false false (.v 0) (.v 1), .push, none, false, 2, none⟩]) (.cond (.l 0) (.seq (.reg [⟨.mv (.k (.int .i64 (-1))), (.var 4), none, true, 0, none⟩]) .ret) .skip)) (.seq (.seq (.reg [⟨.bin .gtr 25 false false (.v 0) (.v 1), .push, none, false, 2, none⟩]) (.cond (.l 0) (.seq (.reg [⟨.mv (.k (.int .i64 1)), (.var 4), none, true, 0, none⟩]) .ret) .skip)) (.seq (.reg [⟨.mv (.k (.int .i64 0)), (.var 4), none, true, 0, none⟩]) .ret)))))))), [.tmp (.v 4)]⟩
noncomputable def G142 (E : Env) : ZFn := ⟨20, [0, 1, 5, 6, 4], fun cy Y fuel =>
  (zSeq (zReg fun k => (zDst (.var 4) (vMv (.k (.int .i64 0)))) k)
  (zSeq (zReg fun k => (zCall (cy Y) 160 [(.v 0)] .push) ((zDst (.var 2) (vMv (.l 0))) k))
  (zSeq (zReg fun k => (zCall (cy Y) 160 [(.v 1)] .push) ((zDst (.var 3) (vMv (.l 0))) k))
  (zSeq (zSeq (zReg fun k => k)
  (zCond (.v 2) (zSeq (zSeq (zReg fun k => k)
  (zCond (.v 3) (zSeq (zReg fun k => (zDst (.var 4) (vMv (.k (.int .i64 0)))) k)
  zRet) zSkip))
  (zSeq (zReg fun k => (zDst (.var 4) (vMv (.k (.int .i64 (-1))))) k)
  zRet)) zSkip))
  (zSeq (zSeq (zReg fun k => k)
  (zCond (.v 3) (zSeq (zReg fun k => (zDst (.var 4) (vMv (.k (.int .i64 1)))) k)
  zRet) zSkip))
  (zSeq (zSeq (zReg fun k => (zDst .push (vInt E fLss .lss 25 false false (.v 0) (.v 1))) k)
  (zCond (.l 0) (zSeq (zReg fun k => (zDst (.var 4) (vMv (.k (.int .i64 (-1))))) k)
  zRet) zSkip))
  (zSeq (zSeq (zReg fun k => (zDst .push (vInt E fGtr .gtr 25 false false (.v 0) (.v 1))) k)
  (zCond (.l 0) (zSeq (zReg fun k => (zDst (.var 4) (vMv (.k (.int .i64 1)))) k)
  zRet) zSkip))
  (zSeq (zReg fun k => (zDst (.var 4) (vMv (.k (.int .i64 0)))) k)
  zRet)))))))), [.tmp (.v 4)]⟩
theorem G142_ok (fn : Nat → Option Func) (pu : Nat → Bool) (pr : Nat → List AV → Option (Heap → Option (Eff × Acc))) : ZOk ⟨Tryz.tyT, fn, pu, pr⟩ npT F142 (G142 ⟨Tryz.tyT, fn, pu, pr⟩) := ⟨rfl, rfl, rfl, fun cy Y k => by kernel_rfl⟩
noncomputable def F143 : FFn := ⟨32, [0, 1, 17, 16, 15, 7, 2, 8, 9, 6], (.seq (.reg [⟨.mv (.k (.bool false)), (.var 9), none, true, 0, none⟩]) (.seq (.seq (.reg [⟨.len 27 (.v 0), .push, none, false, 1, none⟩,
    ⟨.len 27 (.v 1), .push, none, false, 3, none⟩,
    ⟨.bin .neq 3 false false (.l 1) (.l 0), .push, none, false, 4, none⟩]) (.cond (.l 0) (.seq (.reg [⟨.mv (.k (.bool false)), (.var 9), none, true, 0, none⟩]) .ret) .skip)) (.seq (.seq (.reg [⟨.mv (.v 0), (.var 4), none, true, 0, none⟩,
    ⟨.len 27 (.v 4), (.var 3), none, false, 1, none⟩,
    ⟨.mv (.k (.int .i64 0)), (.var 2), none, true, 2, none⟩]) (.block 0 (.loop (.seq (.reg [⟨.bin .lss 3 false false (.v 2) (.v 3), .push, none, false, 0, none⟩]) (.seq (.cond (.l 0) .skip (.exit 0)) (.seq (.block 1 (.seq (.reg [⟨.indexAddr 27 (.v 4) (.v 2), .push, none, true, 1, none⟩,
    ⟨.load 58 (.l 0), .push, none, true, 2, none⟩,
    ⟨.mv (.v 2), (.var 5), none, true, 3, none⟩,
    ⟨.mv (.l 0), (.var 7), none, true, 4, none⟩]) (.seq (.reg [⟨.indexAddr 27 (.v 1) (.v 5), .push, none, true, 2, none⟩,
    ⟨.load 58 (.l 0), .push, none, true, 3, none⟩,
    ⟨.mv (.l 0), (.var 8), none, true, 4, none⟩]) (.seq (.reg [⟨.callv (.v 6) [(.v 7), (.v 8)], .push, none, false, 3, (some 0)⟩,
    ⟨.un .not (.l 0), .push, none, false, 4, none⟩]) (.cond (.l 0) (.seq (.reg [⟨.mv (.k (.bool false)), (.var 9), none, true, 0, none⟩]) .ret) .skip))))) (.reg [⟨.bin .add 3 false true (.v 2) (.k (.int .i64 1)), .push, none, false, 0, none⟩,
    ⟨.mv (.l 0), (.var 2), none, true, 1, none⟩]))))))) (.seq (.reg [⟨.mv (.k (.bool true)), (.var 9), none, true, 0, none⟩]) .ret)))), [.tmp (.v 9)]⟩
noncomputable def G143 (E : Env) : ZFn := ⟨32, [0, 1, 17, 16, 15, 7, 2, 8, 9, 6], fun cy Y fuel =>
  (zSeq (zReg fun k => (zDst (.var 9) (vMv (.k (.bool false)))) k)
  (zSeq (zSeq (zReg fun k => (zDst .push (vLenL (.v 0))) ((zDst .push (vLenL (.v 1))) ((zDst .push (vInt E fNeq .neq 3 false false (.l 1) (.l 0))) k)))
  (zCond (.l 0) (zSeq (zReg fun k => (zDst (.var 9) (vMv (.k (.bool false)))) k)
  zRet) zSkip))
  (zSeq (zSeq (zReg fun k => (zDst (.var 4) (vMv (.v 0))) ((zDst (.var 3) (vLenL (.v 4))) ((zDst (.var 2) (vMv (.k (.int .i64 0)))) k)))
  (zBlock 0 (zLoop fuel (zSeq (zReg fun k => (zDst .push (vInt E fLss .lss 3 false false (.v 2) (.v 3))) k)
  (zSeq (zCond (.l 0) zSkip (zExit 0))
  (zSeq (zBlock 1 (zSeq (zReg fun k => (zDst .push (vIndexAddr 1 (.v 4) (.v 2))) ((zDstW .push (wLoad 1 false (.l 0))) ((zDst (.var 5) (vMv (.v 2))) ((zDst (.var 7) (vMv (.l 0))) k))))
  (zSeq (zReg fun k => (zDst .push (vIndexAddr 1 (.v 1) (.v 5))) ((zDstW .push (wLoad 1 false (.l 0))) ((zDst (.var 8) (vMv (.l 0))) k)))
  (zSeq (zReg fun k => (zStep E (cy Y) ⟨.callv (.v 6) [(.v 7), (.v 8)], .push, none, false, 3, (some 0)⟩) ((zDst .push (vNot (.l 0))) k))
  (zCond (.l 0) (zSeq (zReg fun k => (zDst (.var 9) (vMv (.k (.bool false)))) k)
  zRet) zSkip)))))
  (zReg fun k => (zDst .push (vInt E fAdd .add 3 false true (.v 2) (.k (.int .i64 1)))) ((zDst (.var 2) (vMv (.l 0))) k))))))))
  (zSeq (zReg fun k => (zDst (.var 9) (vMv (.k (.bool true)))) k)
  zRet)))), [.tmp (.v 9)]⟩
theorem G143_ok (fn : Nat → Option Func) (pu : Nat → Bool) (pr : Nat → List AV → Option (Heap → Option (Eff × Acc))) : ZOk ⟨Tryz.tyT, fn, pu, pr⟩ npT F143 (G143 ⟨Tryz.tyT, fn, pu, pr⟩) := ⟨rfl, rfl, rfl, fun cy Y k => by kernel_rfl⟩
noncomputable def F145 : FFn := ⟨24, [5, 0, 1, 4], (.seq (.reg [⟨.mv (.k (.int .u64 0)), (.var 3), none, true, 0, none⟩]) (.seq (.seq (.reg [⟨.mv (.k (.int .i64 0)), (.var 0), none, true, 0, none⟩]) (.block 0 (.loop (.seq (.seq (.reg [⟨.len 58 (.v 1), .push, none, false, 2, none⟩,
    ⟨.bin .lss 3 false false (.v 0) (.l 0), .push, none, false, 3, none⟩]) (.cond (.l 0) .skip (.exit 0))) (.seq (.block 1 (.seq (.reg [⟨.indexAddr 58 (.v 1) (.v 0), .push, none, true, 2, none⟩,
    ⟨.fieldAddr 57 (.l 0) 0, .push, none, true, 3, none⟩,
    ⟨.load 3 (.l 0), .push, none, true, 4, none⟩,
    ⟨.bin .eql 3 false false (.l 0) (.v 2), .push, none, false, 6, none⟩]) (.cond (.l 0) (.seq (.reg [⟨.indexAddr 58 (.v 1) (.v 0), .push, none, true, 2, none⟩,
    ⟨.fieldAddr 57 (.l 0) 1, .push, none, true, 3, none⟩,
    ⟨.load 25 (.l 0), .push, none, true, 4, none⟩,
    ⟨.mv (.l 0), (.var 3), none, true, 5, none⟩]) .ret) .skip))) (.reg [⟨.mv (.v 0), .push, none, true, 0, none⟩,
    ⟨.bin .add 3 false true (.l 0) (.k (.int .i64 1)), .push, none, false, 1, none⟩,
    ⟨.mv (.l 0), (.var 0), none, true, 2, none⟩])))))) (.seq (.reg [⟨.mv (.k (.int .u64 0)), (.var 3), none, true, 0, none⟩]) .ret))), [.tmp (.v 3)]⟩
noncomputable def G145 (E : Env) : ZFn := ⟨24, [5, 0, 1, 4], fun cy Y fuel =>
  (zSeq (zReg fun k => (zDst (.var 3) (vMv (.k (.int .u64 0)))) k)
  (zSeq (zSeq (zReg fun k => (zDst (.var 0) (vMv (.k (.int .i64 0)))) k)
  (zBlock 0 (zLoop fuel (zSeq (zSeq (zReg fun k => (zDst .push (vLenL (.v 1))) ((zDst .push (vInt E fLss .lss 3 false false (.v 0) (.l 0))) k))
  (zCond (.l 0) zSkip (zExit 0)))
  (zSeq (zBlock 1 (zSeq (zReg fun k => (zDst .push (vIndexAddr 2 (.v 1) (.v 0))) ((zDst .push (vFieldAddr 0 (.l 0))) ((zDstW .push (wLoad 1 false (.l 0))) ((zDst .push (vInt E fEql .eql 3 false false (.l 0) (.v 2))) k))))
  (zCond (.l 0) (zSeq (zReg fun k => (zDst .push (vIndexAddr 2 (.v 1) (.v 0))) ((zDst .push (vFieldAddr 1 (.l 0))) ((zDstW .push (wLoad 1 false (.l 0))) ((zDst (.var 3) (vMv (.l 0))) k))))
  zRet) zSkip)))
  (zReg fun k => (zDst .push (vMv (.v 0))) ((zDst .push (vInt E fAdd .add 3 false true (.l 0) (.k (.int .i64 1)))) ((zDst (.var 0) (vMv (.l 0))) k))))))))
  (zSeq (zReg fun k => (zDst (.var 3) (vMv (.k (.int .u64 0)))) k)
  zRet))), [.tmp (.v 3)]⟩
theorem G145_ok (fn : Nat → Option Func) (pu : Nat → Bool) (pr : Nat → List AV → Option (Heap → Option (Eff × Acc))) : ZOk ⟨Tryz.tyT, fn, pu, pr⟩ npT F145 (G145 ⟨Tryz.tyT, fn, pu, pr⟩) := ⟨rfl, rfl, rfl, fun cy Y k => by kernel_rfl⟩
noncomputable def F159 : FFn := ⟨22, [3, 1, 0], (.seq (.reg [⟨.mv (.k (.int .i64 1)), (.var 0), none, true, 0, none⟩]) (.block 0 (.loop (.seq (.seq (.reg [⟨.load 164 (.v 1), .push, none, true, 1, none⟩,
    ⟨.len 164 (.l 0), .push, none, false, 2, none⟩,
    ⟨.bin .lss 3 false false (.v 0) (.l 0), .push, none, false, 3, none⟩]) (.cond (.l 0) .skip (.exit 0))) (.seq (.block 1 (.seq (.dreg 1 [0, 0, 0, 4, 14, 30, 0, 0, 192, 448, 1023, 2047] [⟨.load 164 (.v 1), .push, none, true, 1, none⟩,
    ⟨.bin .sub 3 false true (.v 0) (.k (.int .i64 1)), .push, none, false, 3, none⟩,
    ⟨.indexAddr 164 (.l 1) (.l 0), .push, none, true, 4, none⟩,
    ⟨.load 9 (.l 0), .push, none, true, 5, none⟩,
    ⟨.load 164 (.v 1), .push, none, true, 6, none⟩,
    ⟨.indexAddr 164 (.l 0) (.v 0), .push, none, true, 8, none⟩,
    ⟨.load 9 (.l 0), .push, none, true, 9, none⟩,
    ⟨.callv (.v 2) [(.l 3), (.l 0)], .push, none, false, 10, (some 0)⟩,
    ⟨.un .not (.l 0), .push, none, false, 11, none⟩]) (.cond (.l 0) .ret .skip))) (.reg [⟨.mv (.v 0), .push, none, true, 0, none⟩,
    ⟨.bin .add 3 false true (.l 0) (.k (.int .i64 1)), .push, none, false, 1, none⟩,
    ⟨.mv (.l 0), (.var 0), none, true, 2, none⟩])))))), []⟩
noncomputable def G159 (E : Env) : ZFn := ⟨22, [3, 1, 0], fun cy Y fuel =>
  (zSeq (zReg fun k => (zDst (.var 0) (vMv (.k (.int .i64 1)))) k)
  (zBlock 0 (zLoop fuel (zSeq (zSeq (zReg fun k => (zDstW .push (wLoad 1 false (.v 1))) ((zDst .push (vLenL (.l 0))) ((zDst .push (vInt E fLss .lss 3 false false (.v 0) (.l 0))) k)))
  (zCond (.l 0) zSkip (zExit 0)))
  (zSeq (zBlock 1 (zSeq (zDreg 1 fun n0 k => (zDstWD [0, 0, 0, 4, 14, 30, 0, 0, 192, 448, 1023, 2047] 1 .push (wLoad 1 false (.v 1))) ((fun k sp => zDst .push (vInt E fSub .sub 3 false true (.v 0) (.k (.int .i64 1))) (k sp)) ((fun k sp => zDst .push (vIndexAddr 1 (.l 1) (.l 0)) (k sp)) ((zDstWD [0, 0, 0, 4, 14, 30, 0, 0, 192, 448, 1023, 2047] 5 .push (wLoad 1 false (.l 0))) ((zDstWD [0, 0, 0, 4, 14, 30, 0, 0, 192, 448, 1023, 2047] 6 .push (wLoad 1 false (.v 1))) ((fun k sp => zDst .push (vIndexAddr 1 (.l 0) (.v 0)) (k sp)) ((zDstWD [0, 0, 0, 4, 14, 30, 0, 0, 192, 448, 1023, 2047] 9 .push (wLoad 1 false (.l 0))) ((zStepD E (cy Y) [0, 0, 0, 4, 14, 30, 0, 0, 192, 448, 1023, 2047] n0 ⟨.callv (.v 2) [(.l 3), (.l 0)], .push, none, false, 10, (some 0)⟩) ((fun k sp => zDst .push (vNot (.l 0)) (k sp)) k)))))))))
  (zCond (.l 0) zRet zSkip)))
  (zReg fun k => (zDst .push (vMv (.v 0))) ((zDst .push (vInt E fAdd .add 3 false true (.l 0) (.k (.int .i64 1)))) ((zDst (.var 0) (vMv (.l 0))) k)))))))), []⟩
theorem G159_ok (fn : Nat → Option Func) (pu : Nat → Bool) (pr : Nat → List AV → Option (Heap → Option (Eff × Acc))) : ZOk ⟨Tryz.tyT, fn, pu, pr⟩ npT F159 (G159 ⟨Tryz.tyT, fn, pu, pr⟩) := ⟨rfl, rfl, rfl, fun cy Y k => by kernel_rfl⟩
noncomputable def F160 : FFn := ⟨6, [0, 2], (.seq (.reg [⟨.mv (.k (.bool false)), (.var 1), none, true, 0, none⟩]) (.seq (.reg [⟨.bin .neq 25 false false (.v 0) (.v 0), .push, none, false, 2, none⟩,
    ⟨.mv (.l 0), (.var 1), none, true, 3, none⟩]) .ret)), [.tmp (.v 1)]⟩
noncomputable def G160 (E : Env) : ZFn := ⟨6, [0, 2], fun cy Y fuel =>
  (zSeq (zReg fun k => (zDst (.var 1) (vMv (.k (.bool false)))) k)
  (zSeq (zReg fun k => (zDst .push (vInt E fNeq .neq 25 false false (.v 0) (.v 0))) ((zDst (.var 1) (vMv (.l 0))) k))
  zRet)), [.tmp (.v 1)]⟩
theorem G160_ok (fn : Nat → Option Func) (pu : Nat → Bool) (pr : Nat → List AV → Option (Heap → Option (Eff × Acc))) : ZOk ⟨Tryz.tyT, fn, pu, pr⟩ npT F160 (G160 ⟨Tryz.tyT, fn, pu, pr⟩) := ⟨rfl, rfl, rfl, fun cy Y k => by kernel_rfl⟩
end Go.Proofs.PxG1
