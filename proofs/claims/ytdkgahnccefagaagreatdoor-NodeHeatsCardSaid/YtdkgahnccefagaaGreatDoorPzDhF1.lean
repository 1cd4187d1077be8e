/- The functions of the seat, in one breath: part 1. -/
import Derived.Test.YtdkgahnccefagaaGreatDoorPzDhF0
import Derived.KernelRfl
set_option maxRecDepth 100000
set_option linter.unusedVariables false
set_option linter.unusedSimpArgs false
namespace Go.Proofs.PxDh
open Go Go.Px Go.Proofs
noncomputable def F201 : FFn := cF LV 0 [0, 1, 13, 12, 5, 4] Tryz.f201
noncomputable def G201 (E : Env) : ZFn := ⟨26, [0, 1, 13, 12, 5, 4], fun cy Y fuel =>
  (zSeq (zReg fun k => (zV 5 (vMv (.k (.bool false)))) k)
  (zSeq (zSeq (zReg fun k => (zP (vLenL (.v 0))) ((zP (vLenL (.v 1))) ((zP (vInt E fNeq .neq 3 false false (.l 1) (.l 0))) k)))
  (zCond (.l 0) (zSeq (zReg fun k => (zV 5 (vMv (.k (.bool false)))) k)
  zRet) zSkip))
  (zSeq (zSeq (zReg fun k => (zV 3 (vLenL (.v 0))) ((zV 2 (vMv (.k (.int .i64 0)))) k))
  (zBlock 0 (zLoop fuel (zSeq (zReg fun k => (zP (vInt E fLss .lss 3 false false (.v 2) (.v 3))) k)
  (zSeq (zCond (.l 0) zSkip (zExit 0))
  (zSeq (zBlock 1 (zSeq (zReg fun k => (zV 4 (vMv (.v 2))) k)
  (zSeq (zDreg 0 fun n0 k => (zPD (vIndexAddr 1 (.v 0) (.v 4))) ((zLD B51 3 1 false (.l 0)) ((zPD (vIndexAddr 1 (.v 1) (.v 4))) ((zLD B51 7 1 false (.l 0)) ((zPD (vInt E fNeq .neq 9 false false (.l 2) (.l 0))) k)))))
  (zCond (.l 0) (zSeq (zReg fun k => (zV 5 (vMv (.k (.bool false)))) k)
  zRet) zSkip))))
  (zReg fun k => (zP (vInt E fAdd .add 3 false true (.v 2) (.k (.int .i64 1)))) ((zV 2 (vMv (.l 0))) k))))))))
  (zSeq (zReg fun k => (zV 5 (vMv (.k (.bool true)))) k)
  zRet)))), [.tmp (.v 5)]⟩
theorem G201_ok (fn : Nat → Option Func) (pu : Nat → Bool) (pr : Nat → List AV → Option (Heap → Option (Eff × Acc))) : ZOk ⟨Tryz.tyT, fn, pu, pr⟩ npT F201 (G201 ⟨Tryz.tyT, fn, pu, pr⟩) := ⟨by kernel_rfl, by kernel_rfl, by kernel_rfl, fun cy Y k => by kernel_rfl⟩
noncomputable def F202 : FFn := cF LV 0 [0, 1, 2, 6] Tryz.f202
noncomputable def G202 (E : Env) : ZFn := ⟨11, [0, 1, 2, 6], fun cy Y fuel =>
  (zSeq (zReg fun k => (zV 3 (vMv (.k (.bool false)))) k)
  (zSeq (zReg fun k => (zCall (cy Y) 263 [(.v 0), (.v 1), (.v 2)] .push) ((zV 3 (vMv (.l 0))) k))
  zRet)), [.tmp (.v 3)]⟩
theorem G202_ok (fn : Nat → Option Func) (pu : Nat → Bool) (pr : Nat → List AV → Option (Heap → Option (Eff × Acc))) : ZOk ⟨Tryz.tyT, fn, pu, pr⟩ npT F202 (G202 ⟨Tryz.tyT, fn, pu, pr⟩) := ⟨by kernel_rfl, by kernel_rfl, by kernel_rfl, fun cy Y k => by kernel_rfl⟩
noncomputable def F204 : FFn := cF LV 0 [0, 1, 2, 6] Tryz.f204
noncomputable def G204 (E : Env) : ZFn := ⟨11, [0, 1, 2, 6], fun cy Y fuel =>
  (zSeq (zReg fun k => (zV 3 (vMv (.k (.bool false)))) k)
  (zSeq (zReg fun k => (zCall (cy Y) 265 [(.v 0), (.v 1), (.v 2)] .push) ((zV 3 (vMv (.l 0))) k))
  zRet)), [.tmp (.v 3)]⟩
theorem G204_ok (fn : Nat → Option Func) (pu : Nat → Bool) (pr : Nat → List AV → Option (Heap → Option (Eff × Acc))) : ZOk ⟨Tryz.tyT, fn, pu, pr⟩ npT F204 (G204 ⟨Tryz.tyT, fn, pu, pr⟩) := ⟨by kernel_rfl, by kernel_rfl, by kernel_rfl, fun cy Y k => by kernel_rfl⟩
noncomputable def F205 : FFn := cF LV 0 [0, 1, 13, 12, 5, 4] Tryz.f205
noncomputable def G205 (E : Env) : ZFn := ⟨26, [0, 1, 13, 12, 5, 4], fun cy Y fuel =>
  (zSeq (zReg fun k => (zV 5 (vMv (.k (.bool false)))) k)
  (zSeq (zSeq (zReg fun k => (zP (vLenL (.v 0))) ((zP (vLenL (.v 1))) ((zP (vInt E fNeq .neq 3 false false (.l 1) (.l 0))) k)))
  (zCond (.l 0) (zSeq (zReg fun k => (zV 5 (vMv (.k (.bool false)))) k)
  zRet) zSkip))
  (zSeq (zSeq (zReg fun k => (zV 3 (vLenL (.v 0))) ((zV 2 (vMv (.k (.int .i64 0)))) k))
  (zBlock 0 (zLoop fuel (zSeq (zReg fun k => (zP (vInt E fLss .lss 3 false false (.v 2) (.v 3))) k)
  (zSeq (zCond (.l 0) zSkip (zExit 0))
  (zSeq (zBlock 1 (zSeq (zReg fun k => (zV 4 (vMv (.v 2))) k)
  (zSeq (zDreg 0 fun n0 k => (zPD (vIndexAddr 2 (.v 0) (.v 4))) ((zLD B51 3 2 true (.l 0)) ((zPD (vIndexAddr 2 (.v 1) (.v 4))) ((zLD B51 7 2 true (.l 0)) ((zPD (vInt E fNeq .neq 77 false false (.l 2) (.l 0))) k)))))
  (zCond (.l 0) (zSeq (zReg fun k => (zV 5 (vMv (.k (.bool false)))) k)
  zRet) zSkip))))
  (zReg fun k => (zP (vInt E fAdd .add 3 false true (.v 2) (.k (.int .i64 1)))) ((zV 2 (vMv (.l 0))) k))))))))
  (zSeq (zReg fun k => (zV 5 (vMv (.k (.bool true)))) k)
  zRet)))), [.tmp (.v 5)]⟩
theorem G205_ok (fn : Nat → Option Func) (pu : Nat → Bool) (pr : Nat → List AV → Option (Heap → Option (Eff × Acc))) : ZOk ⟨Tryz.tyT, fn, pu, pr⟩ npT F205 (G205 ⟨Tryz.tyT, fn, pu, pr⟩) := ⟨by kernel_rfl, by kernel_rfl, by kernel_rfl, fun cy Y k => by kernel_rfl⟩
noncomputable def F206 : FFn := cF LV 0 [0, 1, 13, 12, 5, 4] Tryz.f206
noncomputable def G206 (E : Env) : ZFn := ⟨26, [0, 1, 13, 12, 5, 4], fun cy Y fuel =>
  (zSeq (zReg fun k => (zV 5 (vMv (.k (.bool false)))) k)
  (zSeq (zSeq (zReg fun k => (zP (vLenL (.v 0))) ((zP (vLenL (.v 1))) ((zP (vInt E fNeq .neq 3 false false (.l 1) (.l 0))) k)))
  (zCond (.l 0) (zSeq (zReg fun k => (zV 5 (vMv (.k (.bool false)))) k)
  zRet) zSkip))
  (zSeq (zSeq (zReg fun k => (zV 3 (vLenL (.v 0))) ((zV 2 (vMv (.k (.int .i64 0)))) k))
  (zBlock 0 (zLoop fuel (zSeq (zReg fun k => (zP (vInt E fLss .lss 3 false false (.v 2) (.v 3))) k)
  (zSeq (zCond (.l 0) zSkip (zExit 0))
  (zSeq (zBlock 1 (zSeq (zReg fun k => (zV 4 (vMv (.v 2))) k)
  (zSeq (zDreg 0 fun n0 k => (zPD (vIndexAddr 3 (.v 0) (.v 4))) ((zLD B51 3 3 true (.l 0)) ((zPD (vIndexAddr 3 (.v 1) (.v 4))) ((zLD B51 7 3 true (.l 0)) ((zPD (vInt E fNeq .neq 131 false false (.l 2) (.l 0))) k)))))
  (zCond (.l 0) (zSeq (zReg fun k => (zV 5 (vMv (.k (.bool false)))) k)
  zRet) zSkip))))
  (zReg fun k => (zP (vInt E fAdd .add 3 false true (.v 2) (.k (.int .i64 1)))) ((zV 2 (vMv (.l 0))) k))))))))
  (zSeq (zReg fun k => (zV 5 (vMv (.k (.bool true)))) k)
  zRet)))), [.tmp (.v 5)]⟩
theorem G206_ok (fn : Nat → Option Func) (pu : Nat → Bool) (pr : Nat → List AV → Option (Heap → Option (Eff × Acc))) : ZOk ⟨Tryz.tyT, fn, pu, pr⟩ npT F206 (G206 ⟨Tryz.tyT, fn, pu, pr⟩) := ⟨by kernel_rfl, by kernel_rfl, by kernel_rfl, fun cy Y k => by kernel_rfl⟩
noncomputable def F207 : FFn := cF LV 0 [0, 1, 6, 5, 4] Tryz.f207
noncomputable def G207 (E : Env) : ZFn := ⟨43, [0, 1, 6, 5, 4], fun cy Y fuel =>
  (zSeq (zReg fun k => (zV 4 (vMv (.k (.str [])))) k)
  (zSeq (zSeq (zReg fun k => (zP (vInt E fEql .eql 9 false true (.v 0) (.k (.str [])))) ((zG (.l 0) false .push (zP (vMv (.v 1)))) ((zG (.l 1) false .push (zP (vInt E fEql .eql 9 false true (.l 0) (.k (.str []))))) ((zP (vPick (.l 2) (.k (.bool true)) (.l 0))) k))))
  (zCond (.l 0) (zSeq (zReg fun k => (zV 4 (vMv (.v 0))) k)
  zRet) zSkip))
  (zSeq (zSeq (zReg fun k => (zP (vLenS (.v 1))) ((zP (vInt E fEql .eql 3 false true (.l 0) (.k (.int .i64 1)))) ((zG (.l 0) true .push (zP (vMv (.v 1)))) ((zG (.l 1) true .push (zStep E (cy Y) ⟨.index 9 (.l 0) (.k (.int .i64 0)), .push, none, false, 5, none⟩)) ((zG (.l 2) true .push (zP (vInt E fLss .lss 5 false true (.l 0) (.k (.int .u8 128))))) ((zP (vPick (.l 3) (.l 0) (.k (.bool false)))) k))))))
  (zCond (.l 0) (zSeq (zDreg 2 fun n0 k => (zStepD E (cy Y) B52 n0 ⟨.index 9 (.v 1) (.k (.int .i64 0)), .push, none, false, 2, none⟩) ((zCallD (cy Y) B52 3 267 [(.v 0), (.l 0)] .push) ((zStepD E (cy Y) B52 n0 ⟨.index 9 (.v 1) (.k (.int .i64 0)), .push, none, false, 5, none⟩) ((zCallD (cy Y) B52 6 266 [(.l 1), (.l 0)] .push) ((zVD 4 (vMv (.l 0))) k)))))
  zRet) zSkip))
  (zSeq (zSeq (zReg fun k => (zCall (cy Y) 268 [(.v 1)] .push) ((zP (vExtract 0 (.l 0))) ((zP (vExtract 1 (.l 1))) ((zStep E (cy Y) ⟨.alloc 348, (.var 3), none, false, 5, (some 1)⟩) ((zStep E (cy Y) ⟨.store 348 (.v 3) (.l 1), .none, none, false, 6, none⟩) ((zV 2 (vMv (.l 0))) k))))))
  (zSeq (zReg fun k => k)
  (zCond (.v 2) (zSeq (zReg fun k => (zCall (cy Y) 270 [(.v 0), (.v 3)] .push) ((zCall (cy Y) 269 [(.l 0), (.v 3)] .push) ((zV 4 (vMv (.l 0))) k)))
  zRet) zSkip)))
  (zSeq (zReg fun k => (zCall (cy Y) 272 [(.v 0), (.v 1)] .push) ((zCall (cy Y) 271 [(.l 0), (.v 1)] .push) ((zV 4 (vMv (.l 0))) k)))
  zRet))))), [.tmp (.v 4)]⟩
theorem G207_ok (fn : Nat → Option Func) (pu : Nat → Bool) (pr : Nat → List AV → Option (Heap → Option (Eff × Acc))) : ZOk ⟨Tryz.tyT, fn, pu, pr⟩ npT F207 (G207 ⟨Tryz.tyT, fn, pu, pr⟩) := ⟨by kernel_rfl, by kernel_rfl, by kernel_rfl, fun cy Y k => by kernel_rfl⟩
noncomputable def F208 : FFn := cF LV 0 [0, 1, 2, 3, 25, 5, 4] Tryz.f208
noncomputable def G208 (E : Env) : ZFn := ⟨137, [0, 1, 2, 3, 25, 5, 4], fun cy Y fuel =>
  (zSeq (zReg fun k => (zStep E (cy Y) ⟨.box 81 (.v 0), (.var 2), none, false, 0, (some 0)⟩) ((zStep E (cy Y) ⟨.box 38 (.v 1), (.var 3), none, false, 1, (some 1)⟩) ((zV 6 (vMv (.k (.bool false)))) k)))
  (zSeq (zSeq (zReg fun k => (zP (vFieldAddr 0 (.v 2))) ((zL 1 false (.l 0)) ((zL 5 true (.v 3)) ((zCall (cy Y) 273 [(.l 1), (.l 0)] .push) ((zP (vNot (.l 0))) ((zG (.l 0) false .push (zP (vFieldAddr 4 (.v 3)))) ((zG (.l 1) false .push (zL 1 false (.l 0))) ((zG (.l 2) false .push (zP (vLenL (.l 0)))) ((zG (.l 3) false .push (zP (vInt E fGtr .gtr 3 false true (.l 0) (.k (.int .i64 40))))) ((zP (vPick (.l 4) (.k (.bool true)) (.l 0))) ((zG (.l 0) false .push (zP (vFieldAddr 3 (.v 3)))) ((zG (.l 1) false .push (zL 1 false (.l 0))) ((zG (.l 2) false .push (zP (vLenL (.l 0)))) ((zG (.l 3) false .push (zP (vInt E fGtr .gtr 3 false true (.l 0) (.k (.int .i64 40))))) ((zP (vPick (.l 4) (.k (.bool true)) (.l 0))) k)))))))))))))))
  (zCond (.l 0) (zSeq (zReg fun k => (zV 6 (vMv (.k (.bool false)))) k)
  zRet) zSkip))
  (zSeq (zReg fun k => (zStep E (cy Y) ⟨.mkFunc 274 [(.v 2)], .push, none, false, 0, none⟩) ((zStep E (cy Y) ⟨.alloc 294, (.var 5), none, false, 1, (some 0)⟩) ((zStep E (cy Y) ⟨.store 294 (.v 5) (.l 0), .none, none, false, 2, none⟩) k)))
  (zSeq (zSeq (zReg fun k => (zP (vFieldAddr 0 (.v 2))) ((zDstW (.var 4) (wLoad 1 false (.l 0))) k))
  (zBlock 0 (zSeq (zReg fun k => (zP (vInt E fEql .eql 3 false true (.v 4) (.k (.int .i64 1)))) ((zP (vMv (.l 0))) k))
  (zCond (.l 0) (zSeq (zReg fun k => (zV 6 (vMv (.k (.bool true)))) k)
  zRet) (zSeq (zReg fun k => (zP (vInt E fEql .eql 3 false true (.v 4) (.k (.int .i64 2)))) ((zP (vMv (.l 0))) k))
  (zCond (.l 0) (zSeq (zReg fun k => (zP (vFieldAddr 0 (.v 3))) ((zL 1 false (.l 0)) ((zP (vInt E (fGen .leq) .leq 33 false true (.l 0) (.k (.int .u64 1)))) ((zV 6 (vMv (.l 0))) k))))
  zRet) (zSeq (zReg fun k => (zP (vInt E fEql .eql 3 false true (.v 4) (.k (.int .i64 3)))) ((zP (vMv (.l 0))) k))
  (zCond (.l 0) (zSeq (zReg fun k => (zP (vFieldAddr 2 (.v 3))) ((zL 1 false (.l 0)) ((zCall (cy Y) 275 [(.l 0)] .push) ((zV 6 (vMv (.l 0))) k))))
  zRet) (zSeq (zReg fun k => (zP (vInt E fEql .eql 3 false true (.v 4) (.k (.int .i64 4)))) ((zP (vMv (.l 0))) k))
  (zCond (.l 0) (zSeq (zReg fun k => (zP (vFieldAddr 2 (.v 3))) ((zL 1 false (.l 0)) ((zCall (cy Y) 275 [(.l 0)] .push) ((zG (.l 0) true .push (zP (vFieldAddr 2 (.v 3)))) ((zG (.l 1) true .push (zL 1 false (.l 0))) ((zG (.l 2) true .push (zP (vLenL (.l 0)))) ((zG (.l 3) true .push (zP (vFieldAddr 4 (.v 3)))) ((zG (.l 4) true .push (zL 1 false (.l 0))) ((zG (.l 5) true .push (zP (vLenL (.l 0)))) ((zG (.l 6) true .push (zP (vInt E fEql .eql 3 false false (.l 3) (.l 0)))) ((zP (vPick (.l 7) (.l 0) (.k (.bool false)))) ((zG (.l 0) true .push (zP (vFieldAddr 4 (.v 3)))) ((zG (.l 1) true .push (zL 1 false (.l 0))) ((zG (.l 2) true .push (zStep E (cy Y) ⟨.mkFunc 277 [(.v 5), (.v 2)], .push, none, false, 15, none⟩)) ((zG (.l 3) true .push (zCall (cy Y) 276 [(.l 1), (.l 0)] .push)) ((zG (.l 4) true .push (zP (vNot (.l 0)))) ((zP (vPick (.l 5) (.l 0) (.k (.bool false)))) ((zV 6 (vMv (.l 0))) k))))))))))))))))))
  zRet) (zSeq (zReg fun k => (zP (vInt E fEql .eql 3 false true (.v 4) (.k (.int .i64 5)))) ((zP (vMv (.l 0))) k))
  (zCond (.l 0) (zSeq (zDreg 2 fun n0 k => (zPD (vFieldAddr 4 (.v 3))) ((zLD B53 1 1 false (.l 0)) ((zPD (vLenL (.l 0))) ((zPD (vInt E fEql .eql 3 false true (.l 0) (.k (.int .i64 2)))) ((zGD (.l 0) true .push (zPD (vFieldAddr 1 (.v 2)))) ((zGD (.l 1) true .push (zLD B53 6 1 false (.l 0))) ((zGD (.l 2) true .push (zPD (vIndexAddr 2 (.l 0) (.k (.int .i64 0))))) ((zGD (.l 3) true .push (zLD B53 8 2 true (.l 0))) ((zGD (.l 4) true .push (zPD (vFieldAddr 4 (.v 3)))) ((zGD (.l 5) true .push (zLD B53 10 1 false (.l 0))) ((zGD (.l 6) true .push (zPD (vIndexAddr 5 (.l 0) (.k (.int .i64 0))))) ((zGD (.l 7) true .push (zLD B53 12 5 true (.l 0))) ((zGD (.l 8) true .push (zCallD (cy Y) B53 13 208 [(.l 4), (.l 0)] .push)) ((zPD (vPick (.l 9) (.l 0) (.k (.bool false)))) ((zGD (.l 0) true .push (zPD (vFieldAddr 1 (.v 2)))) ((zGD (.l 1) true .push (zLD B53 17 1 false (.l 0))) ((zGD (.l 2) true .push (zPD (vIndexAddr 2 (.l 0) (.k (.int .i64 1))))) ((zGD (.l 3) true .push (zLD B53 19 2 true (.l 0))) ((zGD (.l 4) true .push (zPD (vFieldAddr 4 (.v 3)))) ((zGD (.l 5) true .push (zLD B53 21 1 false (.l 0))) ((zGD (.l 6) true .push (zPD (vIndexAddr 5 (.l 0) (.k (.int .i64 1))))) ((zGD (.l 7) true .push (zLD B53 23 5 true (.l 0))) ((zGD (.l 8) true .push (zCallD (cy Y) B53 24 208 [(.l 4), (.l 0)] .push)) ((zPD (vPick (.l 9) (.l 0) (.k (.bool false)))) ((zVD 6 (vMv (.l 0))) k)))))))))))))))))))))))))
  zRet) (zSeq (zReg fun k => (zP (vInt E fEql .eql 3 false true (.v 4) (.k (.int .i64 6)))) ((zP (vMv (.l 0))) k))
  (zCond (.l 0) (zSeq (zReg fun k => (zL 5 true (.v 3)) ((zCall (cy Y) 278 [(.l 0)] .push) ((zV 6 (vMv (.l 0))) k)))
  zRet) (zSeq (zReg fun k => (zP (vInt E fEql .eql 3 false true (.v 4) (.k (.int .i64 7)))) ((zP (vMv (.l 0))) k))
  (zCond (.l 0) (zSeq (zReg fun k => (zP (vFieldAddr 3 (.v 3))) ((zL 1 false (.l 0)) ((zP (vLenL (.l 0))) ((zP (vInt E fEql .eql 3 false true (.l 0) (.k (.int .i64 0)))) ((zG (.l 0) false .push (zP (vFieldAddr 3 (.v 3)))) ((zG (.l 1) false .push (zL 1 false (.l 0))) ((zG (.l 2) false .push (zP (vLenL (.l 0)))) ((zG (.l 3) false .push (zP (vInt E fEql .eql 3 false true (.l 0) (.k (.int .i64 1))))) ((zG (.l 4) false .push (zP (vMv (.l 0)))) ((zG (.l 0) true .push (zP (vFieldAddr 3 (.v 3)))) ((zG (.l 1) true .push (zL 1 false (.l 0))) ((zG (.l 2) true .push (zP (vIndexAddr 1 (.l 0) (.k (.int .i64 0))))) ((zG (.l 3) true .push (zL 1 false (.l 0))) ((zG (.l 4) true .push (zP (vLenL (.l 0)))) ((zG (.l 5) true .push (zP (vInt E fGtr .gtr 3 false true (.l 0) (.k (.int .i64 0))))) ((zG (.l 11) false .push (zP (vPick (.l 6) (.l 0) (.k (.bool false))))) ((zG (.l 12) false .push (zP (vMv (.l 0)))) ((zG (.l 0) true .push (zP (vFieldAddr 3 (.v 3)))) ((zG (.l 1) true .push (zL 1 false (.l 0))) ((zG (.l 2) true .push (zP (vIndexAddr 1 (.l 0) (.k (.int .i64 0))))) ((zG (.l 3) true .push (zL 1 false (.l 0))) ((zG (.l 4) true .push (zCall (cy Y) 279 [(.l 0)] .push)) ((zG (.l 18) false .push (zP (vPick (.l 5) (.l 0) (.k (.bool false))))) ((zP (vPick (.l 19) (.k (.bool true)) (.l 0))) ((zV 6 (vMv (.l 0))) k)))))))))))))))))))))))))
  zRet) zSkip))))))))))))))))
  (zSeq (zReg fun k => (zP (vFieldAddr 3 (.v 3))) ((zL 1 false (.l 0)) ((zP (vLenL (.l 0))) ((zP (vFieldAddr 4 (.v 3))) ((zL 1 false (.l 0)) ((zP (vLenL (.l 0))) ((zP (vInt E fEql .eql 3 false false (.l 3) (.l 0))) ((zG (.l 0) true .push (zP (vFieldAddr 3 (.v 3)))) ((zG (.l 1) true .push (zL 1 false (.l 0))) ((zG (.l 2) true .push (zCall (cy Y) 280 [(.l 0)] .push)) ((zP (vPick (.l 3) (.l 0) (.k (.bool false)))) ((zG (.l 0) true .push (zP (vFieldAddr 4 (.v 3)))) ((zG (.l 1) true .push (zL 1 false (.l 0))) ((zG (.l 2) true .push (zStep E (cy Y) ⟨.mkFunc 281 [(.v 5)], .push, none, false, 15, none⟩)) ((zG (.l 3) true .push (zCall (cy Y) 276 [(.l 1), (.l 0)] .push)) ((zG (.l 4) true .push (zP (vNot (.l 0)))) ((zP (vPick (.l 5) (.l 0) (.k (.bool false)))) ((zV 6 (vMv (.l 0))) k))))))))))))))))))
  zRet))))), [.tmp (.v 6)]⟩
theorem G208_ok (fn : Nat → Option Func) (pu : Nat → Bool) (pr : Nat → List AV → Option (Heap → Option (Eff × Acc))) : ZOk ⟨Tryz.tyT, fn, pu, pr⟩ npT F208 (G208 ⟨Tryz.tyT, fn, pu, pr⟩) := ⟨by kernel_rfl, by kernel_rfl, by kernel_rfl, fun cy Y k => by kernel_rfl⟩
noncomputable def F209 : FFn := cF LV 0 [0, 1, 2] Tryz.f209
noncomputable def G209 (E : Env) : ZFn := ⟨4, [0, 1, 2], fun cy Y fuel =>
  (zSeq (zReg fun k => (zStep E (cy Y) ⟨.box 288 (.v 0), (.var 1), none, false, 0, (some 0)⟩) ((zV 2 (vMv (.k .nilFunc))) k))
  (zSeq (zReg fun k => (zStep E (cy Y) ⟨.mkFunc 282 [(.v 1)], .push, none, false, 0, none⟩) ((zV 2 (vMv (.l 0))) k))
  zRet)), [.tmp (.v 2)]⟩
theorem G209_ok (fn : Nat → Option Func) (pu : Nat → Bool) (pr : Nat → List AV → Option (Heap → Option (Eff × Acc))) : ZOk ⟨Tryz.tyT, fn, pu, pr⟩ npT F209 (G209 ⟨Tryz.tyT, fn, pu, pr⟩) := ⟨by kernel_rfl, by kernel_rfl, by kernel_rfl, fun cy Y k => by kernel_rfl⟩
noncomputable def F210 : FFn := cF LV 0 [1, 7, 6, 5, 0, 4] Tryz.f210
noncomputable def G210 (E : Env) : ZFn := ⟨16, [1, 7, 6, 5, 0, 4], fun cy Y fuel =>
  (zSeq (zReg fun k => (zDstW (.var 3) (wLoad 1 false (.v 0))) ((zV 2 (vLenL (.v 3))) ((zV 1 (vMv (.k (.int .i64 0)))) k)))
  (zBlock 0 (zLoop fuel (zSeq (zReg fun k => (zP (vInt E fLss .lss 3 false false (.v 1) (.v 2))) k)
  (zSeq (zCond (.l 0) zSkip (zExit 0))
  (zSeq (zBlock 1 (zSeq (zReg fun k => (zP (vIndexAddr 2 (.v 3) (.v 1))) ((zL 2 true (.l 0)) ((zStep E (cy Y) ⟨.alloc 153, (.var 5), none, false, 2, (some 0)⟩) ((zStep E (cy Y) ⟨.store 153 (.v 5) (.l 0), .none, none, false, 3, none⟩) k))))
  (zSeq (zReg fun k => (zL 2 true (.v 5)) ((zStep E (cy Y) ⟨.callv (.v 4) [(.l 0)], .push, none, false, 2, (some 0)⟩) ((zP (vNot (.l 0))) k)))
  (zCond (.l 0) zRet zSkip))))
  (zReg fun k => (zP (vInt E fAdd .add 3 false true (.v 1) (.k (.int .i64 1)))) ((zV 1 (vMv (.l 0))) k)))))))), []⟩
theorem G210_ok (fn : Nat → Option Func) (pu : Nat → Bool) (pr : Nat → List AV → Option (Heap → Option (Eff × Acc))) : ZOk ⟨Tryz.tyT, fn, pu, pr⟩ npT F210 (G210 ⟨Tryz.tyT, fn, pu, pr⟩) := ⟨by kernel_rfl, by kernel_rfl, by kernel_rfl, fun cy Y k => by kernel_rfl⟩
noncomputable def F211 : FFn := cF LV 0 [0, 1, 5, 4] Tryz.f211
noncomputable def G211 (E : Env) : ZFn := ⟨21, [0, 1, 5, 4], fun cy Y fuel =>
  (zSeq (zReg fun k => (zV 3 (vMv (.k .nilIface))) k)
  (zSeq (zDreg 1 fun n0 k => (zPD (vNilCheck (.v 0))) ((zPD (vFieldAddr 0 (.l 0))) ((zLD B16 3 1 false (.l 0)) ((zCallD (cy Y) B16 5 198 [(.v 1)] .push) ((zPD (vInt E fAdd .add 9 false false (.l 1) (.l 0))) ((zVD 2 (vMv (.l 0))) k))))))
  (zSeq (zSeq (zReg fun k => (zP (vLenS (.v 2))) ((zP (vInt E fGtr .gtr 3 false true (.l 0) (.k (.int .i64 100000)))) k))
  (zCond (.l 0) (zSeq (zReg fun k => (zStep E (cy Y) ⟨.mkIface 66 (.k (.int .i64 15)), .push, none, false, 0, none⟩) ((zV 3 (vMv (.l 0))) k))
  zRet) zSkip))
  (zSeq (zReg fun k => (zP (vNilCheck (.v 0))) ((zP (vFieldAddr 0 (.l 0))) ((zStep E (cy Y) ⟨.store 9 (.l 0) (.v 2), .none, none, false, 4, none⟩) k)))
  (zSeq (zReg fun k => (zV 3 (vMv (.k .nilIface))) k)
  zRet))))), [.tmp (.v 3)]⟩
theorem G211_ok (fn : Nat → Option Func) (pu : Nat → Bool) (pr : Nat → List AV → Option (Heap → Option (Eff × Acc))) : ZOk ⟨Tryz.tyT, fn, pu, pr⟩ npT F211 (G211 ⟨Tryz.tyT, fn, pu, pr⟩) := ⟨by kernel_rfl, by kernel_rfl, by kernel_rfl, fun cy Y k => by kernel_rfl⟩
noncomputable def F213 : FFn := cF LV 15 [0, 3, 2] Tryz.f213
noncomputable def G213 (E : Env) : ZFn := ⟨14, [0, 3, 2], fun cy Y fuel =>
  (zSeq (zReg fun k => (zV 2 (vMv (.k (.sl 0 [] true)))) k)
  (zSeq (zReg fun k => (zStep E (cy Y) ⟨.alloc 36, (.var 1), none, false, 0, (some 0)⟩) k)
  (zSeq (zSeq (zReg fun k => k)
  (zBlock 0 (zRange cy Y (.v 0) 15 [none, (some (.v 1)), none] [none, none, none, (some (.v 1)), none, none, none, none, none, none, none, none, none, none] [6] (codeAt [1, 1, 0, 1, 0, 0] (bodyOf Tryz.f213)) (codeAt [1, 1, 0, 1, 0, 1] (bodyOf Tryz.f213)))))
  (zSeq (zReg fun k => (zL 1 false (.v 1)) ((zV 2 (vMv (.l 0))) k))
  zRet)))), [.tmp (.v 2)]⟩
theorem G213_ok (fn : Nat → Option Func) (pu : Nat → Bool) (pr : Nat → List AV → Option (Heap → Option (Eff × Acc))) : ZOk ⟨Tryz.tyT, fn, pu, pr⟩ npT F213 (G213 ⟨Tryz.tyT, fn, pu, pr⟩) := ⟨by kernel_rfl, by kernel_rfl, by kernel_rfl, fun cy Y k => by kernel_rfl⟩
noncomputable def F214 : FFn := cF LV 0 [0, 1, 2, 3, 4] Tryz.f214
noncomputable def G214 (E : Env) : ZFn := ⟨6, [0, 1, 2, 3, 4], fun cy Y fuel =>
  (zSeq (zReg fun k => (zStep E (cy Y) ⟨.box 254 (.v 0), (.var 2), none, false, 0, (some 0)⟩) ((zStep E (cy Y) ⟨.box 294 (.v 1), (.var 3), none, false, 1, (some 1)⟩) ((zV 4 (vMv (.k .nilFunc))) k)))
  (zSeq (zReg fun k => (zStep E (cy Y) ⟨.mkFunc 283 [(.v 2), (.v 3)], .push, none, false, 0, none⟩) ((zV 4 (vMv (.l 0))) k))
  zRet)), [.tmp (.v 4)]⟩
theorem G214_ok (fn : Nat → Option Func) (pu : Nat → Bool) (pr : Nat → List AV → Option (Heap → Option (Eff × Acc))) : ZOk ⟨Tryz.tyT, fn, pu, pr⟩ npT F214 (G214 ⟨Tryz.tyT, fn, pu, pr⟩) := ⟨by kernel_rfl, by kernel_rfl, by kernel_rfl, fun cy Y k => by kernel_rfl⟩
noncomputable def F215 : FFn := cF LV 0 [0, 1, 2, 3, 4] Tryz.f215
noncomputable def G215 (E : Env) : ZFn := ⟨6, [0, 1, 2, 3, 4], fun cy Y fuel =>
  (zSeq (zReg fun k => (zStep E (cy Y) ⟨.box 81 (.v 0), (.var 2), none, false, 0, (some 0)⟩) ((zStep E (cy Y) ⟨.box 38 (.v 1), (.var 3), none, false, 1, (some 1)⟩) ((zV 4 (vMv (.k .nilFunc))) k)))
  (zSeq (zReg fun k => (zStep E (cy Y) ⟨.mkFunc 284 [(.v 2), (.v 3)], .push, none, false, 0, none⟩) ((zV 4 (vMv (.l 0))) k))
  zRet)), [.tmp (.v 4)]⟩
theorem G215_ok (fn : Nat → Option Func) (pu : Nat → Bool) (pr : Nat → List AV → Option (Heap → Option (Eff × Acc))) : ZOk ⟨Tryz.tyT, fn, pu, pr⟩ npT F215 (G215 ⟨Tryz.tyT, fn, pu, pr⟩) := ⟨by kernel_rfl, by kernel_rfl, by kernel_rfl, fun cy Y k => by kernel_rfl⟩
noncomputable def F216 : FFn := cF LV 0 [0, 1, 3, 2, 6, 5, 4] Tryz.f216
noncomputable def G216 (E : Env) : ZFn := ⟨20, [0, 1, 3, 2, 6, 5, 4], fun cy Y fuel =>
  (zSeq (zReg fun k => (zStep E (cy Y) ⟨.box 38 (.v 0), (.var 2), none, false, 0, (some 0)⟩) ((zV 6 (vMv (.k (.bool false)))) k))
  (zSeq (zReg fun k => (zL 2 true (.v 1)) ((zL 5 true (.v 2)) ((zL 5 true (.v 3)) ((zCall (cy Y) 155 [(.l 2), (.l 1), (.l 0)] .push) ((zP (vExtract 0 (.l 0))) ((zP (vExtract 1 (.l 1))) ((zV 5 (vMv (.l 1))) ((zV 4 (vMv (.l 0))) k))))))))
  (zSeq (zReg fun k => (zP (vInt E fEql .eql 55 false true (.v 4) (.k .nilIface))) ((zG (.l 0) true .push (zP (vMv (.v 5)))) ((zG (.l 1) true .push (zP (vNot (.l 0)))) ((zP (vPick (.l 2) (.l 0) (.k (.bool false)))) ((zV 6 (vMv (.l 0))) k)))))
  zRet))), [.tmp (.v 6)]⟩
theorem G216_ok (fn : Nat → Option Func) (pu : Nat → Bool) (pr : Nat → List AV → Option (Heap → Option (Eff × Acc))) : ZOk ⟨Tryz.tyT, fn, pu, pr⟩ npT F216 (G216 ⟨Tryz.tyT, fn, pu, pr⟩) := ⟨by kernel_rfl, by kernel_rfl, by kernel_rfl, fun cy Y k => by kernel_rfl⟩
noncomputable def F217 : FFn := cF LV 0 [0, 1, 2, 3, 9, 10, 4, 5, 6, 7] Tryz.f217
noncomputable def G217 (E : Env) : ZFn := ⟨76, [0, 1, 2, 3, 9, 10, 4, 5, 6, 7], fun cy Y fuel =>
  (zSeq (zReg fun k => (zStep E (cy Y) ⟨.box 81 (.v 0), (.var 3), none, false, 0, (some 0)⟩) ((zStep E (cy Y) ⟨.box 38 (.v 1), (.var 6), none, false, 1, (some 1)⟩) ((zStep E (cy Y) ⟨.box 38 (.v 2), (.var 7), none, false, 2, (some 2)⟩) ((zStep E (cy Y) ⟨.alloc 38, (.var 8), none, false, 3, (some 3)⟩) ((zV 9 (vMv (.k .nilIface))) k)))))
  (zSeq (zSeq (zReg fun k => (zP (vFieldAddr 0 (.v 3))) ((zDstW (.var 4) (wLoad 1 false (.l 0))) k))
  (zBlock 0 (zSeq (zSeq (zReg fun k => (zP (vInt E fEql .eql 3 false true (.v 4) (.k (.int .i64 1)))) ((zV 5 (vMv (.l 0))) k))
  (zCond (.v 5) zSkip (zReg fun k => (zP (vInt E fEql .eql 3 false true (.v 4) (.k (.int .i64 2)))) ((zV 5 (vMv (.l 0))) k))))
  (zCond (.v 5) (zReg fun k => (zP (vFieldAddr 0 (.v 6))) ((zL 1 false (.l 0)) ((zP (vFieldAddr 0 (.v 7))) ((zL 1 false (.l 0)) ((zStep E (cy Y) ⟨.most true [(.l 2), (.l 0)], .push, none, false, 4, none⟩) ((zP (vFieldAddr 0 (.v 8))) ((zStep E (cy Y) ⟨.store 33 (.l 0) (.l 1), .none, none, false, 6, none⟩) k))))))) (zSeq (zReg fun k => (zP (vInt E fEql .eql 3 false true (.v 4) (.k (.int .i64 3)))) ((zP (vMv (.l 0))) k))
  (zCond (.l 0) (zReg fun k => (zP (vFieldAddr 2 (.v 6))) ((zL 1 false (.l 0)) ((zP (vFieldAddr 2 (.v 7))) ((zL 1 false (.l 0)) ((zStep E (cy Y) ⟨.call 183 [(.l 2), (.l 0)], .push, none, false, 4, (some 0)⟩) ((zP (vFieldAddr 2 (.v 8))) ((zStep E (cy Y) ⟨.store 34 (.l 0) (.l 1), .none, none, false, 6, none⟩) k))))))) (zSeq (zReg fun k => (zP (vInt E fEql .eql 3 false true (.v 4) (.k (.int .i64 4)))) ((zP (vMv (.l 0))) k))
  (zCond (.l 0) (zReg fun k => (zL 2 true (.v 3)) ((zL 5 true (.v 6)) ((zL 5 true (.v 7)) ((zCall (cy Y) 290 [(.l 2), (.l 1), (.l 0)] .push) ((zP (vExtract 0 (.l 0))) ((zP (vExtract 1 (.l 1))) ((zStep E (cy Y) ⟨.store 38 (.v 8) (.l 1), .none, none, false, 7, none⟩) ((zV 9 (vMv (.l 0))) k)))))))) (zSeq (zReg fun k => (zP (vInt E fEql .eql 3 false true (.v 4) (.k (.int .i64 5)))) ((zP (vMv (.l 0))) k))
  (zCond (.l 0) (zReg fun k => (zL 2 true (.v 3)) ((zL 5 true (.v 6)) ((zL 5 true (.v 7)) ((zCall (cy Y) 291 [(.l 2), (.l 1), (.l 0)] .push) ((zP (vExtract 0 (.l 0))) ((zP (vExtract 1 (.l 1))) ((zStep E (cy Y) ⟨.store 38 (.v 8) (.l 1), .none, none, false, 7, none⟩) ((zV 9 (vMv (.l 0))) k)))))))) (zSeq (zReg fun k => (zP (vInt E fEql .eql 3 false true (.v 4) (.k (.int .i64 6)))) ((zP (vMv (.l 0))) k))
  (zCond (.l 0) (zReg fun k => (zL 5 true (.v 6)) ((zL 5 true (.v 7)) ((zCall (cy Y) 292 [(.l 1), (.l 0)] .push) ((zStep E (cy Y) ⟨.store 38 (.v 8) (.l 0), .none, none, false, 3, none⟩) k)))) (zSeq (zReg fun k => (zP (vInt E fEql .eql 3 false true (.v 4) (.k (.int .i64 7)))) ((zP (vMv (.l 0))) k))
  (zCond (.l 0) (zReg fun k => (zL 5 true (.v 6)) ((zL 5 true (.v 7)) ((zCall (cy Y) 293 [(.l 1), (.l 0)] .push) ((zStep E (cy Y) ⟨.store 38 (.v 8) (.l 0), .none, none, false, 3, none⟩) k)))) (zSeq (zReg fun k => (zP (vInt E fEql .eql 3 false true (.v 4) (.k (.int .i64 8)))) ((zP (vMv (.l 0))) k))
  (zCond (.l 0) (zReg fun k => (zL 2 true (.v 3)) ((zL 5 true (.v 6)) ((zL 5 true (.v 7)) ((zCall (cy Y) 294 [(.l 2), (.l 1), (.l 0)] .push) ((zP (vExtract 0 (.l 0))) ((zP (vExtract 1 (.l 1))) ((zStep E (cy Y) ⟨.store 38 (.v 8) (.l 1), .none, none, false, 7, none⟩) ((zV 9 (vMv (.l 0))) k)))))))) zSkip))))))))))))))))
  (zSeq (zSeq (zReg fun k => (zP (vInt E fEql .eql 55 false true (.v 9) (.k .nilIface))) ((zG (.l 0) true .push (zL 5 true (.v 8))) ((zG (.l 1) true .push (zCall (cy Y) 295 [(.l 0)] .push)) ((zP (vPick (.l 2) (.l 0) (.k (.bool false)))) k))))
  (zCond (.l 0) (zReg fun k => (zStep E (cy Y) ⟨.mkIface 66 (.k (.int .i64 13)), .push, none, false, 0, none⟩) ((zV 9 (vMv (.l 0))) k)) zSkip))
  (zSeq (zSeq (zReg fun k => (zP (vInt E fNeq .neq 55 false true (.v 9) (.k .nilIface))) k)
  (zCond (.l 0) (zSeq (zReg fun k => (zStep E (cy Y) ⟨.build 38 [], .push, none, false, 0, none⟩) ((zP (vMv (.v 9))) ((zStep E (cy Y) ⟨.store 38 (.v 8) (.l 1), .none, none, false, 2, none⟩) ((zV 9 (vMv (.l 0))) k))))
  zRet) zSkip))
  (zSeq (zReg fun k => (zL 5 true (.v 8)) ((zStep E (cy Y) ⟨.store 38 (.v 8) (.l 0), .none, none, false, 1, none⟩) ((zV 9 (vMv (.k .nilIface))) k)))
  zRet))))), [.cell (.v 8) 38, .tmp (.v 9)]⟩
theorem G217_ok (fn : Nat → Option Func) (pu : Nat → Bool) (pr : Nat → List AV → Option (Heap → Option (Eff × Acc))) : ZOk ⟨Tryz.tyT, fn, pu, pr⟩ npT F217 (G217 ⟨Tryz.tyT, fn, pu, pr⟩) := ⟨by kernel_rfl, by kernel_rfl, by kernel_rfl, fun cy Y k => by kernel_rfl⟩
noncomputable def F218 : FFn := cF LV 0 [0, 7, 6, 3, 4, 2] Tryz.f218
noncomputable def G218 (E : Env) : ZFn := ⟨19, [0, 7, 6, 3, 4, 2], fun cy Y fuel =>
  (zSeq (zReg fun k => (zV 5 (vMv (.k (.int .u64 0)))) k)
  (zSeq (zReg fun k => (zV 3 (vMv (.k (.int .u64 14695981039346656037)))) k)
  (zSeq (zSeq (zReg fun k => (zV 2 (vLenS (.v 0))) ((zV 1 (vMv (.k (.int .i64 0)))) k))
  (zBlock 0 (zLoop fuel (zSeq (zReg fun k => (zP (vInt E fLss .lss 3 false false (.v 1) (.v 2))) k)
  (zSeq (zCond (.l 0) zSkip (zExit 0))
  (zSeq (zBlock 1 (zSeq (zReg fun k => (zV 4 (vMv (.v 1))) k)
  (zReg fun k => (zP (vMv (.v 3))) ((zStep E (cy Y) ⟨.index 9 (.v 0) (.v 4), .push, none, false, 3, none⟩) ((zP (vConv .u64 (.l 0))) ((zP (vInt E (fGen .xor) .xor 33 false false (.l 2) (.l 0))) ((zP (vInt E (fGen .mul) .mul 33 false true (.l 0) (.k (.int .u64 1099511628211)))) ((zV 3 (vMv (.l 0))) k))))))))
  (zReg fun k => (zP (vInt E fAdd .add 3 false true (.v 1) (.k (.int .i64 1)))) ((zV 1 (vMv (.l 0))) k))))))))
  (zSeq (zReg fun k => (zV 5 (vMv (.v 3))) k)
  zRet)))), [.tmp (.v 5)]⟩
theorem G218_ok (fn : Nat → Option Func) (pu : Nat → Bool) (pr : Nat → List AV → Option (Heap → Option (Eff × Acc))) : ZOk ⟨Tryz.tyT, fn, pu, pr⟩ npT F218 (G218 ⟨Tryz.tyT, fn, pu, pr⟩) := ⟨by kernel_rfl, by kernel_rfl, by kernel_rfl, fun cy Y k => by kernel_rfl⟩
noncomputable def F223 : FFn := cF LV 0 [0, 1, 3, 2, 4] Tryz.f223
noncomputable def G223 (E : Env) : ZFn := ⟨20, [0, 1, 3, 2, 4], fun cy Y fuel =>
  (zSeq (zReg fun k => (zStep E (cy Y) ⟨.box 81 (.v 0), (.var 3), none, false, 0, (some 0)⟩) ((zStep E (cy Y) ⟨.box 3 (.v 1), (.var 2), none, false, 1, (some 1)⟩) ((zV 4 (vMv (.k (.bool false)))) k)))
  (zSeq (zSeq (zDreg 1 fun n0 k => (zLD B55 0 1 false (.v 2)) ((zPD (vInt E fEql .eql 3 false true (.l 0) (.k (.int .i64 0)))) ((zGD (.l 0) false .push (zPD (vFieldAddr 0 (.v 3)))) ((zGD (.l 1) false .push (zLD B55 4 1 false (.l 0))) ((zGD (.l 2) false .push (zCallD (cy Y) B55 5 300 [(.l 0)] .push)) ((zGD (.l 3) false .push (zPD (vFieldAddr 1 (.v 3)))) ((zGD (.l 4) false .push (zLD B55 7 1 false (.l 0))) ((zGD (.l 5) false .push (zPD (vLenL (.l 0)))) ((zGD (.l 6) false .push (zPD (vInt E fNeq .neq 3 false false (.l 3) (.l 0)))) ((zPD (vPick (.l 7) (.k (.bool true)) (.l 0))) k))))))))))
  (zCond (.l 0) (zSeq (zReg fun k => (zV 4 (vMv (.k (.bool false)))) k)
  zRet) zSkip))
  (zSeq (zReg fun k => (zP (vFieldAddr 1 (.v 3))) ((zL 1 false (.l 0)) ((zStep E (cy Y) ⟨.mkFunc 302 [(.v 2)], .push, none, false, 2, none⟩) ((zCall (cy Y) 301 [(.l 1), (.l 0)] .push) ((zV 4 (vMv (.l 0))) k)))))
  zRet))), [.tmp (.v 4)]⟩
theorem G223_ok (fn : Nat → Option Func) (pu : Nat → Bool) (pr : Nat → List AV → Option (Heap → Option (Eff × Acc))) : ZOk ⟨Tryz.tyT, fn, pu, pr⟩ npT F223 (G223 ⟨Tryz.tyT, fn, pu, pr⟩) := ⟨by kernel_rfl, by kernel_rfl, by kernel_rfl, fun cy Y k => by kernel_rfl⟩
noncomputable def F226 : FFn := cF LV 0 [0, 1, 4] Tryz.f226
noncomputable def G226 (E : Env) : ZFn := ⟨8, [0, 1, 4], fun cy Y fuel =>
  (zSeq (zReg fun k => (zV 2 (vMv (.k (.int .i64 0)))) k)
  (zSeq (zReg fun k => (zStep E (cy Y) ⟨.call 304 [(.v 0), (.v 1)], .push, none, false, 2, (some 0)⟩) ((zV 2 (vMv (.l 0))) k))
  zRet)), [.tmp (.v 2)]⟩
theorem G226_ok (fn : Nat → Option Func) (pu : Nat → Bool) (pr : Nat → List AV → Option (Heap → Option (Eff × Acc))) : ZOk ⟨Tryz.tyT, fn, pu, pr⟩ npT F226 (G226 ⟨Tryz.tyT, fn, pu, pr⟩) := ⟨by kernel_rfl, by kernel_rfl, by kernel_rfl, fun cy Y k => by kernel_rfl⟩
noncomputable def F229 : FFn := cF LV 0 [0, 2] Tryz.f229
noncomputable def G229 (E : Env) : ZFn := ⟨6, [0, 2], fun cy Y fuel =>
  (zSeq (zReg fun k => (zV 1 (vMv (.k (.bool false)))) k)
  (zSeq (zReg fun k => (zP (vInt E fNeq .neq 3 false false (.v 0) (.v 0))) ((zV 1 (vMv (.l 0))) k))
  zRet)), [.tmp (.v 1)]⟩
theorem G229_ok (fn : Nat → Option Func) (pu : Nat → Bool) (pr : Nat → List AV → Option (Heap → Option (Eff × Acc))) : ZOk ⟨Tryz.tyT, fn, pu, pr⟩ npT F229 (G229 ⟨Tryz.tyT, fn, pu, pr⟩) := ⟨by kernel_rfl, by kernel_rfl, by kernel_rfl, fun cy Y k => by kernel_rfl⟩
noncomputable def F230 : FFn := cF LV 16 [0, 1, 5, 4] Tryz.f230
noncomputable def G230 (E : Env) : ZFn := ⟨18, [0, 1, 5, 4], fun cy Y fuel =>
  (zSeq (zReg fun k => (zV 3 (vMv (.k (.sl 0 [] true)))) k)
  (zSeq (zReg fun k => (zStep E (cy Y) ⟨.alloc 98, (.var 2), none, false, 0, (some 0)⟩) k)
  (zSeq (zSeq (zReg fun k => (zCall (cy Y) 308 [(.v 1)] .push) ((zCall (cy Y) 307 [(.v 0), (.l 0)] .push) ((zCall (cy Y) 306 [(.l 0)] .push) k)))
  (zBlock 0 (zRange cy Y (.l 0) 16 [none, (some (.v 2)), none] [none, none, none, none, none, (some (.v 2)), none, none, none, none, none, none, none, none, none, none, none, none] [12] (codeAt [1, 1, 0, 1, 0, 0] (bodyOf Tryz.f230)) (codeAt [1, 1, 0, 1, 0, 1] (bodyOf Tryz.f230)))))
  (zSeq (zReg fun k => (zL 1 false (.v 2)) ((zV 3 (vMv (.l 0))) k))
  zRet)))), [.tmp (.v 3)]⟩
theorem G230_ok (fn : Nat → Option Func) (pu : Nat → Bool) (pr : Nat → List AV → Option (Heap → Option (Eff × Acc))) : ZOk ⟨Tryz.tyT, fn, pu, pr⟩ npT F230 (G230 ⟨Tryz.tyT, fn, pu, pr⟩) := ⟨by kernel_rfl, by kernel_rfl, by kernel_rfl, fun cy Y k => by kernel_rfl⟩
noncomputable def F231 : FFn := cF LV 0 [2, 0, 1, 10, 5, 6, 9, 13, 11, 15, 14, 16, 7, 8] Tryz.f231
noncomputable def G231 (E : Env) : ZFn := ⟨105, [2, 0, 1, 10, 5, 6, 9, 13, 11, 15, 14, 16, 7, 8], fun cy Y fuel =>
  (zSeq (zReg fun k => (zStep E (cy Y) ⟨.box 38 (.v 0), (.var 4), none, false, 0, (some 0)⟩) ((zStep E (cy Y) ⟨.alloc 38, (.var 5), none, false, 1, (some 1)⟩) ((zV 12 (vMv (.k (.bool false)))) ((zV 13 (vMv (.k .nilIface))) k))))
  (zSeq (zReg fun k => (zP (vNilCheck (.v 1))) ((zP (vFieldAddr 0 (.l 0))) ((zL 1 false (.l 0)) ((zStep E (cy Y) ⟨.call 78 [(.l 0), (.v 2)], .push, none, false, 5, (some 0)⟩) ((zP (vExtract 0 (.l 0))) ((zP (vExtract 1 (.l 1))) ((zStep E (cy Y) ⟨.alloc 83, (.var 6), none, false, 9, (some 1)⟩) ((zStep E (cy Y) ⟨.store 83 (.v 6) (.l 1), .none, none, false, 10, none⟩) ((zV 3 (vMv (.l 0))) k)))))))))
  (zSeq (zSeq (zReg fun k => (zP (vNot (.v 3))) k)
  (zCond (.l 0) (zSeq (zReg fun k => (zL 5 true (.v 4)) ((zStep E (cy Y) ⟨.mkIface 66 (.k (.int .i64 10)), .push, none, false, 1, none⟩) ((zStep E (cy Y) ⟨.store 38 (.v 5) (.l 1), .none, none, false, 2, none⟩) ((zV 12 (vMv (.k (.bool false)))) ((zV 13 (vMv (.l 0))) k)))))
  zRet) zSkip))
  (zSeq (zSeq (zReg fun k => (zP (vFieldAddr 2 (.v 6))) ((zL 2 true (.l 0)) ((zL 5 true (.v 4)) ((zStep E (cy Y) ⟨.call 141 [(.l 1), (.l 0)], .push, none, false, 3, (some 0)⟩) ((zP (vNot (.l 0))) k)))))
  (zCond (.l 0) (zSeq (zReg fun k => (zL 5 true (.v 4)) ((zStep E (cy Y) ⟨.mkIface 66 (.k (.int .i64 14)), .push, none, false, 1, none⟩) ((zStep E (cy Y) ⟨.store 38 (.v 5) (.l 1), .none, none, false, 2, none⟩) ((zV 12 (vMv (.k (.bool false)))) ((zV 13 (vMv (.l 0))) k)))))
  zRet) zSkip))
  (zSeq (zReg fun k => (zCall (cy Y) 46 [(.v 1), (.v 2)] .push) ((zStep E (cy Y) ⟨.alloc 38, (.var 8), none, false, 3, (some 1)⟩) ((zStep E (cy Y) ⟨.store 38 (.v 8) (.l 0), .none, none, false, 4, none⟩) k)))
  (zSeq (zReg fun k => (zP (vNilCheck (.v 1))) ((zP (vFieldAddr 1 (.l 0))) ((zP (vFieldAddr 1 (.l 0))) ((zL 1 false (.l 0)) ((zStep E (cy Y) ⟨.lookup 87 (.l 0) (.v 2) true, .push, none, false, 6, none⟩) ((zP (vExtract 0 (.l 0))) ((zP (vExtract 1 (.l 1))) ((zStep E (cy Y) ⟨.alloc 38, .push, none, false, 10, (some 0)⟩) ((zStep E (cy Y) ⟨.store 38 (.l 0) (.l 2), .none, none, false, 11, none⟩) ((zV 7 (vMv (.l 1))) k))))))))))
  (zSeq (zSeq (zReg fun k => (zP (vNot (.v 7))) ((zG (.l 0) true .push (zP (vFieldAddr 2 (.v 6)))) ((zG (.l 1) true .push (zL 2 true (.l 0))) ((zG (.l 2) true .push (zL 5 true (.v 4))) ((zG (.l 3) true .push (zCall (cy Y) 143 [(.l 1), (.l 0)] .push)) ((zG (.l 4) true .push (zP (vNot (.l 0)))) ((zP (vPick (.l 5) (.l 0) (.k (.bool false)))) ((zG (.l 0) true .push (zP (vMv (.v 1)))) ((zG (.l 1) true .push (zP (vNilCheck (.l 0)))) ((zG (.l 2) true .push (zP (vFieldAddr 1 (.l 0)))) ((zG (.l 3) true .push (zP (vFieldAddr 0 (.l 0)))) ((zG (.l 4) true .push (zL 1 false (.l 0))) ((zG (.l 5) true .push (zP (vLenL (.l 0)))) ((zG (.l 6) true .push (zP (vInt E (fGen .geq) .geq 3 false true (.l 0) (.k (.int .i64 24))))) ((zP (vPick (.l 7) (.l 0) (.k (.bool false)))) k)))))))))))))))
  (zCond (.l 0) (zSeq (zReg fun k => (zL 5 true (.v 4)) ((zStep E (cy Y) ⟨.mkIface 66 (.k (.int .i64 15)), .push, none, false, 1, none⟩) ((zStep E (cy Y) ⟨.store 38 (.v 5) (.l 1), .none, none, false, 2, none⟩) ((zV 12 (vMv (.k (.bool false)))) ((zV 13 (vMv (.l 0))) k)))))
  zRet) zSkip))
  (zSeq (zReg fun k => (zP (vFieldAddr 2 (.v 6))) ((zL 2 true (.l 0)) ((zL 5 true (.v 8)) ((zL 5 true (.v 4)) ((zCall (cy Y) 150 [(.l 2), (.l 1), (.l 0)] .push) ((zP (vExtract 0 (.l 0))) ((zP (vExtract 1 (.l 1))) ((zStep E (cy Y) ⟨.alloc 38, (.var 10), none, false, 8, (some 1)⟩) ((zStep E (cy Y) ⟨.store 38 (.v 10) (.l 1), .none, none, false, 9, none⟩) ((zV 9 (vMv (.l 0))) k))))))))))
  (zSeq (zSeq (zReg fun k => (zP (vInt E fEql .eql 55 false true (.v 9) (.k .nilIface))) ((zG (.l 0) true .push (zP (vFieldAddr 2 (.v 6)))) ((zG (.l 1) true .push (zL 2 true (.l 0))) ((zG (.l 2) true .push (zL 5 true (.v 10))) ((zG (.l 3) true .push (zCall (cy Y) 197 [(.l 1), (.l 0)] .push)) ((zG (.l 4) true .push (zP (vLenS (.l 0)))) ((zG (.l 5) true .push (zP (vInt E fGtr .gtr 3 false true (.l 0) (.k (.int .i64 4000))))) ((zP (vPick (.l 6) (.l 0) (.k (.bool false)))) k))))))))
  (zCond (.l 0) (zReg fun k => (zStep E (cy Y) ⟨.mkIface 66 (.k (.int .i64 13)), .push, none, false, 0, none⟩) ((zV 9 (vMv (.l 0))) k)) zSkip))
  (zSeq (zSeq (zReg fun k => (zP (vInt E fNeq .neq 55 false true (.v 9) (.k .nilIface))) k)
  (zCond (.l 0) (zSeq (zReg fun k => (zL 5 true (.v 4)) ((zStep E (cy Y) ⟨.store 38 (.v 5) (.l 0), .none, none, false, 2, none⟩) ((zV 12 (vMv (.k (.bool false)))) ((zV 13 (vMv (.v 9))) k))))
  zRet) zSkip))
  (zSeq (zReg fun k => (zP (vFieldAddr 2 (.v 6))) ((zL 2 true (.l 0)) ((zL 5 true (.v 10)) ((zL 5 true (.v 8)) ((zCall (cy Y) 155 [(.l 2), (.l 1), (.l 0)] .push) ((zP (vExtract 0 (.l 0))) ((zP (vExtract 1 (.l 1))) ((zV 11 (vMv (.l 1))) ((zV 9 (vMv (.l 0))) k)))))))))
  (zSeq (zReg fun k => (zL 5 true (.v 10)) ((zP (vNot (.v 11))) ((zStep E (cy Y) ⟨.store 38 (.v 5) (.l 1), .none, none, false, 4, none⟩) ((zV 12 (vMv (.l 0))) ((zV 13 (vMv (.v 9))) k)))))
  zRet)))))))))))), [.cell (.v 5) 38, .tmp (.v 12), .tmp (.v 13)]⟩
theorem G231_ok (fn : Nat → Option Func) (pu : Nat → Bool) (pr : Nat → List AV → Option (Heap → Option (Eff × Acc))) : ZOk ⟨Tryz.tyT, fn, pu, pr⟩ npT F231 (G231 ⟨Tryz.tyT, fn, pu, pr⟩) := ⟨by kernel_rfl, by kernel_rfl, by kernel_rfl, fun cy Y k => by kernel_rfl⟩
noncomputable def F232 : FFn := cF LV 0 [2, 0, 1, 7, 6, 5] Tryz.f232
noncomputable def G232 (E : Env) : ZFn := ⟨36, [2, 0, 1, 7, 6, 5], fun cy Y fuel =>
  (zSeq (zReg fun k => (zStep E (cy Y) ⟨.box 38 (.v 0), (.var 5), none, false, 0, (some 0)⟩) k)
  (zSeq (zSeq (zReg fun k => (zP (vNilCheck (.v 1))) ((zP (vFieldAddr 0 (.l 0))) ((zL 1 false (.l 0)) ((zCall (cy Y) 309 [(.l 0), (.v 2)] .push) ((zP (vExtract 0 (.l 0))) ((zP (vExtract 1 (.l 1))) ((zV 4 (vMv (.l 1))) ((zV 3 (vMv (.l 0))) k))))))))
  (zSeq (zReg fun k => (zP (vNot (.v 3))) k)
  (zCond (.l 0) (zReg fun k => (zP (vNilCheck (.v 1))) ((zP (vFieldAddr 0 (.l 0))) ((zL 1 false (.l 0)) ((zStep E (cy Y) ⟨.buildSlice 34 1 [(0, (.v 2))], .push, none, false, 7, (some 0)⟩) ((zStep E (cy Y) ⟨.call 310 [(.l 1), (.v 4), (.l 0)], .push, none, false, 8, (some 1)⟩) ((zP (vNilCheck (.v 1))) ((zP (vFieldAddr 0 (.l 0))) ((zStep E (cy Y) ⟨.store 34 (.l 0) (.l 2), .none, none, false, 11, none⟩) k)))))))) zSkip)))
  (zDreg 0 fun n0 k => (zPD (vNilCheck (.v 1))) ((zPD (vFieldAddr 1 (.l 0))) ((zLD B36 3 1 false (.l 0)) ((zLD B36 5 5 true (.v 5)) ((zStepD E (cy Y) B36 n0 ⟨.mapUp 87 (.l 1) (.v 2) (.l 0), .none, none, false, 6, none⟩) k))))))), []⟩
theorem G232_ok (fn : Nat → Option Func) (pu : Nat → Bool) (pr : Nat → List AV → Option (Heap → Option (Eff × Acc))) : ZOk ⟨Tryz.tyT, fn, pu, pr⟩ npT F232 (G232 ⟨Tryz.tyT, fn, pu, pr⟩) := ⟨by kernel_rfl, by kernel_rfl, by kernel_rfl, fun cy Y k => by kernel_rfl⟩
noncomputable def F241 : FFn := cF LV 0 [0, 2] Tryz.f241
noncomputable def G241 (E : Env) : ZFn := ⟨8, [0, 2], fun cy Y fuel =>
  (zSeq (zReg fun k => (zV 1 (vMv (.k (.int .i64 0)))) k)
  (zSeq (zCond (.k (.bool false)) (zSeq (zReg fun k => (zP (vConv .u32 (.v 0))) ((zCall (cy Y) 327 [(.l 0)] .push) ((zV 1 (vMv (.l 0))) k)))
  zRet) zSkip)
  (zSeq (zReg fun k => (zCall (cy Y) 328 [(.v 0)] .push) ((zV 1 (vMv (.l 0))) k))
  zRet))), [.tmp (.v 1)]⟩
theorem G241_ok (fn : Nat → Option Func) (pu : Nat → Bool) (pr : Nat → List AV → Option (Heap → Option (Eff × Acc))) : ZOk ⟨Tryz.tyT, fn, pu, pr⟩ npT F241 (G241 ⟨Tryz.tyT, fn, pu, pr⟩) := ⟨by kernel_rfl, by kernel_rfl, by kernel_rfl, fun cy Y k => by kernel_rfl⟩
noncomputable def F242 : FFn := cF LV 0 [1, 7, 6, 5, 0, 4] Tryz.f242
noncomputable def G242 (E : Env) : ZFn := ⟨16, [1, 7, 6, 5, 0, 4], fun cy Y fuel =>
  (zSeq (zReg fun k => (zDstW (.var 3) (wLoad 1 false (.v 0))) ((zV 2 (vLenL (.v 3))) ((zV 1 (vMv (.k (.int .i64 0)))) k)))
  (zBlock 0 (zLoop fuel (zSeq (zReg fun k => (zP (vInt E fLss .lss 3 false false (.v 1) (.v 2))) k)
  (zSeq (zCond (.l 0) zSkip (zExit 0))
  (zSeq (zBlock 1 (zSeq (zReg fun k => (zP (vIndexAddr 5 (.v 3) (.v 1))) ((zL 5 true (.l 0)) ((zStep E (cy Y) ⟨.alloc 38, (.var 5), none, false, 2, (some 0)⟩) ((zStep E (cy Y) ⟨.store 38 (.v 5) (.l 0), .none, none, false, 3, none⟩) k))))
  (zSeq (zReg fun k => (zL 5 true (.v 5)) ((zStep E (cy Y) ⟨.callv (.v 4) [(.l 0)], .push, none, false, 2, (some 0)⟩) ((zP (vNot (.l 0))) k)))
  (zCond (.l 0) zRet zSkip))))
  (zReg fun k => (zP (vInt E fAdd .add 3 false true (.v 1) (.k (.int .i64 1)))) ((zV 1 (vMv (.l 0))) k)))))))), []⟩
theorem G242_ok (fn : Nat → Option Func) (pu : Nat → Bool) (pr : Nat → List AV → Option (Heap → Option (Eff × Acc))) : ZOk ⟨Tryz.tyT, fn, pu, pr⟩ npT F242 (G242 ⟨Tryz.tyT, fn, pu, pr⟩) := ⟨by kernel_rfl, by kernel_rfl, by kernel_rfl, fun cy Y k => by kernel_rfl⟩
noncomputable def F248 : FFn := cF LV 0 [1, 10, 5, 2, 0, 4] Tryz.f248
noncomputable def G248 (E : Env) : ZFn := ⟨25, [1, 10, 5, 2, 0, 4], fun cy Y fuel =>
  (zSeq (zReg fun k => (zL 1 false (.v 0)) ((zP (vNilCheck (.l 0))) ((zP (vFieldAddr 0 (.l 0))) ((zL 1 false (.l 0)) ((zStep E (cy Y) ⟨.ext (.range 136) [(.l 0)], (.var 1), none, false, 4, (some 0)⟩) k)))))
  (zBlock 0 (zLoop fuel (zSeq (zReg fun k => (zStep E (cy Y) ⟨.ext (.next false) [(.v 1)], .push, none, false, 0, none⟩) ((zP (vExtract 0 (.l 0))) k))
  (zSeq (zCond (.l 0) zSkip (zExit 0))
  (zBlock 1 (zSeq (zReg fun k => (zStep E (cy Y) ⟨.ext .entry [(.v 1)], .push, none, false, 0, none⟩) ((zP (vExtract 0 (.l 0))) ((zP (vExtract 1 (.l 1))) ((zV 5 (vMv (.l 1))) ((zV 2 (vMv (.l 0))) k)))))
  (zSeq (zReg fun k => (zL 1 false (.v 3)) ((zP (vInt E (fGen .geq) .geq 3 false false (.v 2) (.l 0))) ((zG (.l 0) true .push (zP (vMv (.v 4)))) ((zG (.l 1) true .push (zP (vMv (.v 5)))) ((zG (.l 2) true .push (zStep E (cy Y) ⟨.callv (.l 1) [(.l 0)], .push, none, false, 6, (some 0)⟩)) ((zG (.l 3) true .push (zP (vNot (.l 0)))) ((zP (vPick (.l 4) (.l 0) (.k (.bool false)))) k)))))))
  (zCond (.l 0) zRet zSkip))))))))), []⟩
theorem G248_ok (fn : Nat → Option Func) (pu : Nat → Bool) (pr : Nat → List AV → Option (Heap → Option (Eff × Acc))) : ZOk ⟨Tryz.tyT, fn, pu, pr⟩ npT F248 (G248 ⟨Tryz.tyT, fn, pu, pr⟩) := ⟨by kernel_rfl, by kernel_rfl, by kernel_rfl, fun cy Y k => by kernel_rfl⟩
noncomputable def F249 : FFn := cF LV 0 [0, 1, 4, 5] Tryz.f249
noncomputable def G249 (E : Env) : ZFn := ⟨11, [0, 1, 4, 5], fun cy Y fuel =>
  (zSeq (zReg fun k => (zV 2 (vMv (.k (.int .i64 0)))) ((zV 3 (vMv (.k (.bool false)))) k))
  (zSeq (zReg fun k => (zCall (cy Y) 334 [(.v 0), (.v 1)] .push) ((zP (vExtract 0 (.l 0))) ((zP (vExtract 1 (.l 1))) ((zV 2 (vMv (.l 1))) ((zV 3 (vMv (.l 0))) k)))))
  zRet)), [.tmp (.v 2), .tmp (.v 3)]⟩
theorem G249_ok (fn : Nat → Option Func) (pu : Nat → Bool) (pr : Nat → List AV → Option (Heap → Option (Eff × Acc))) : ZOk ⟨Tryz.tyT, fn, pu, pr⟩ npT F249 (G249 ⟨Tryz.tyT, fn, pu, pr⟩) := ⟨by kernel_rfl, by kernel_rfl, by kernel_rfl, fun cy Y k => by kernel_rfl⟩
noncomputable def F250 : FFn := cF LV 0 [0, 1, 2, 3, 4] Tryz.f250
noncomputable def G250 (E : Env) : ZFn := ⟨6, [0, 1, 2, 3, 4], fun cy Y fuel =>
  (zSeq (zReg fun k => (zStep E (cy Y) ⟨.box 288 (.v 0), (.var 2), none, false, 0, (some 0)⟩) ((zStep E (cy Y) ⟨.box 288 (.v 1), (.var 3), none, false, 1, (some 1)⟩) ((zV 4 (vMv (.k .nilFunc))) k)))
  (zSeq (zReg fun k => (zStep E (cy Y) ⟨.mkFunc 335 [(.v 2), (.v 3)], .push, none, false, 0, none⟩) ((zV 4 (vMv (.l 0))) k))
  zRet)), [.tmp (.v 4)]⟩
theorem G250_ok (fn : Nat → Option Func) (pu : Nat → Bool) (pr : Nat → List AV → Option (Heap → Option (Eff × Acc))) : ZOk ⟨Tryz.tyT, fn, pu, pr⟩ npT F250 (G250 ⟨Tryz.tyT, fn, pu, pr⟩) := ⟨by kernel_rfl, by kernel_rfl, by kernel_rfl, fun cy Y k => by kernel_rfl⟩
noncomputable def F253 : FFn := cF LV 0 [1, 10, 9, 8, 0, 4] Tryz.f253
noncomputable def G253 (E : Env) : ZFn := ⟨25, [1, 10, 9, 8, 0, 4], fun cy Y fuel =>
  (zSeq (zReg fun k => (zL 1 false (.v 0)) ((zP (vNilCheck (.l 0))) ((zP (vFieldAddr 0 (.l 0))) ((zDstW (.var 3) (wLoad 1 false (.l 0))) ((zV 2 (vLenL (.v 3))) ((zV 1 (vMv (.k (.int .i64 0)))) k))))))
  (zBlock 0 (zLoop fuel (zSeq (zReg fun k => (zP (vInt E fLss .lss 3 false false (.v 1) (.v 2))) k)
  (zSeq (zCond (.l 0) zSkip (zExit 0))
  (zSeq (zBlock 1 (zSeq (zReg fun k => (zP (vIndexAddr 1 (.v 3) (.v 1))) ((zL 1 false (.l 0)) ((zV 5 (vMv (.l 0))) k)))
  (zSeq (zReg fun k => (zL 1 false (.v 0)) ((zP (vNilCheck (.l 0))) ((zP (vFieldAddr 1 (.l 0))) ((zL 1 false (.l 0)) ((zStep E (cy Y) ⟨.lookup 87 (.l 0) (.v 5) false, .push, none, false, 7, none⟩) ((zStep E (cy Y) ⟨.callv (.v 4) [(.v 5), (.l 0)], .push, none, false, 8, (some 0)⟩) ((zP (vNot (.l 0))) k)))))))
  (zCond (.l 0) zRet zSkip))))
  (zReg fun k => (zP (vInt E fAdd .add 3 false true (.v 1) (.k (.int .i64 1)))) ((zV 1 (vMv (.l 0))) k)))))))), []⟩
theorem G253_ok (fn : Nat → Option Func) (pu : Nat → Bool) (pr : Nat → List AV → Option (Heap → Option (Eff × Acc))) : ZOk ⟨Tryz.tyT, fn, pu, pr⟩ npT F253 (G253 ⟨Tryz.tyT, fn, pu, pr⟩) := ⟨by kernel_rfl, by kernel_rfl, by kernel_rfl, fun cy Y k => by kernel_rfl⟩
noncomputable def F254 : FFn := cF LV 0 [3, 1, 5, 4, 6, 7, 0] Tryz.f254
noncomputable def G254 (E : Env) : ZFn := ⟨58, [3, 1, 5, 4, 6, 7, 0], fun cy Y fuel =>
  (zSeq (zReg fun k => (zV 0 (vMv (.k (.int .i64 0)))) k)
  (zBlock 0 (zLoop fuel (zSeq (zSeq (zReg fun k => (zL 1 false (.v 1)) ((zP (vLenS (.l 0))) ((zP (vInt E fLss .lss 3 false false (.v 0) (.l 0))) k)))
  (zCond (.l 0) zSkip (zExit 0)))
  (zBlock 1 (zSeq (zReg fun k => (zL 1 false (.v 1)) ((zStep E (cy Y) ⟨.slice 9 (.l 0) (some (.v 0)) none none, .push, none, false, 2, none⟩) ((zCall (cy Y) 255 [(.l 0)] .push) ((zP (vExtract 0 (.l 0))) ((zP (vExtract 1 (.l 1))) ((zV 3 (vMv (.l 1))) ((zV 2 (vMv (.l 0))) k)))))))
  (zSeq (zReg fun k => (zP (vInt E fAdd .add 3 false false (.v 0) (.v 2))) ((zP (vInt E fAdd .add 3 false false (.l 0) (.v 3))) ((zP (vInt E fAdd .add 3 false true (.l 0) (.k (.int .i64 8)))) ((zV 4 (vMv (.l 0))) k))))
  (zSeq (zSeq (zReg fun k => (zP (vInt E fEql .eql 3 false true (.v 2) (.k (.int .i64 0)))) ((zG (.l 0) false .push (zP (vMv (.v 4)))) ((zG (.l 1) false .push (zL 1 false (.v 1))) ((zG (.l 2) false .push (zP (vLenS (.l 0)))) ((zG (.l 3) false .push (zP (vInt E fGtr .gtr 3 false false (.l 2) (.l 0)))) ((zP (vPick (.l 4) (.k (.bool true)) (.l 0))) k))))))
  (zCond (.l 0) zRet zSkip))
  (zSeq (zReg fun k => (zL 1 false (.v 1)) ((zP (vInt E fAdd .add 3 false false (.v 0) (.v 2))) ((zP (vInt E fAdd .add 3 false false (.v 0) (.v 2))) ((zP (vInt E fAdd .add 3 false false (.l 0) (.v 3))) ((zStep E (cy Y) ⟨.slice 9 (.l 3) (some (.l 2)) (some (.l 0)) none, .push, none, false, 9, none⟩) ((zV 5 (vMv (.l 0))) k))))))
  (zSeq (zSeq (zDreg 2 fun n0 k => (zCallD (cy Y) B56 1 198 [(.v 5)] .push) ((zLD B56 2 1 false (.v 1)) ((zStepD E (cy Y) B56 n0 ⟨.slice 9 (.l 0) (some (.v 0)) (some (.v 4)) none, .push, none, false, 5, none⟩) ((zPD (vInt E fNeq .neq 9 false false (.l 2) (.l 0))) ((zGD (.l 0) false .push (zPD (vMv (.v 6)))) ((zGD (.l 1) false .push (zPD (vMv (.v 5)))) ((zGD (.l 2) false .push (zPD (vMv (.v 4)))) ((zGD (.l 3) false .push (zStepD E (cy Y) B56 n0 ⟨.callv (.l 2) [(.l 1), (.l 0)], .push, none, false, 11, (some 1)⟩)) ((zGD (.l 4) false .push (zPD (vNot (.l 0)))) ((zPD (vPick (.l 5) (.k (.bool true)) (.l 0))) k))))))))))
  (zCond (.l 0) zRet zSkip))
  (zReg fun k => (zV 0 (vMv (.v 4))) k))))))))))), []⟩
theorem G254_ok (fn : Nat → Option Func) (pu : Nat → Bool) (pr : Nat → List AV → Option (Heap → Option (Eff × Acc))) : ZOk ⟨Tryz.tyT, fn, pu, pr⟩ npT F254 (G254 ⟨Tryz.tyT, fn, pu, pr⟩) := ⟨by kernel_rfl, by kernel_rfl, by kernel_rfl, fun cy Y k => by kernel_rfl⟩
noncomputable def F255 : FFn := cF LV 0 [6, 0, 5, 4, 2, 3] Tryz.f255
noncomputable def G255 (E : Env) : ZFn := ⟨35, [6, 0, 5, 4, 2, 3], fun cy Y fuel =>
  (zSeq (zReg fun k => (zV 4 (vMv (.k (.int .i64 0)))) ((zV 5 (vMv (.k (.int .i64 0)))) k))
  (zSeq (zReg fun k => (zV 3 (vMv (.k (.int .i64 0)))) ((zV 2 (vMv (.k (.int .i64 1)))) k))
  (zSeq (zSeq (zReg fun k => (zV 0 (vMv (.k (.int .i64 0)))) k)
  (zBlock 0 (zLoop fuel (zSeq (zSeq (zReg fun k => (zP (vLenS (.v 1))) ((zP (vInt E fLss .lss 3 false false (.v 0) (.l 0))) ((zG (.l 0) true .push (zP (vMv (.v 2)))) ((zG (.l 1) true .push (zP (vInt E (fGen .leq) .leq 3 false true (.l 0) (.k (.int .i64 100000))))) ((zP (vPick (.l 2) (.l 0) (.k (.bool false)))) k)))))
  (zCond (.l 0) zSkip (zExit 0)))
  (zSeq (zBlock 1 (zSeq (zReg fun k => (zP (vMv (.v 3))) ((zStep E (cy Y) ⟨.index 9 (.v 1) (.v 0), .push, none, false, 3, none⟩) ((zP (vInt E (fGen .rem) .rem 5 false true (.l 0) (.k (.int .u8 128)))) ((zP (vConv .i64 (.l 0))) ((zP (vInt E (fGen .mul) .mul 3 false false (.l 0) (.v 2))) ((zP (vInt E fAdd .add 3 false false (.l 4) (.l 0))) ((zV 3 (vMv (.l 0))) k)))))))
  (zSeq (zSeq (zReg fun k => (zStep E (cy Y) ⟨.index 9 (.v 1) (.v 0), .push, none, false, 2, none⟩) ((zP (vInt E fLss .lss 5 false true (.l 0) (.k (.int .u8 128)))) k))
  (zCond (.l 0) (zSeq (zReg fun k => (zP (vInt E fAdd .add 3 false true (.v 0) (.k (.int .i64 1)))) ((zV 4 (vMv (.v 3))) ((zV 5 (vMv (.l 0))) k)))
  zRet) zSkip))
  (zReg fun k => (zP (vMv (.v 2))) ((zP (vInt E (fGen .mul) .mul 3 false true (.l 0) (.k (.int .i64 128)))) ((zV 2 (vMv (.l 0))) k))))))
  (zReg fun k => (zP (vMv (.v 0))) ((zP (vInt E fAdd .add 3 false true (.l 0) (.k (.int .i64 1)))) ((zV 0 (vMv (.l 0))) k))))))))
  (zSeq (zReg fun k => (zV 4 (vMv (.k (.int .i64 0)))) ((zV 5 (vMv (.k (.int .i64 0)))) k))
  zRet)))), [.tmp (.v 4), .tmp (.v 5)]⟩
theorem G255_ok (fn : Nat → Option Func) (pu : Nat → Bool) (pr : Nat → List AV → Option (Heap → Option (Eff × Acc))) : ZOk ⟨Tryz.tyT, fn, pu, pr⟩ npT F255 (G255 ⟨Tryz.tyT, fn, pu, pr⟩) := ⟨by kernel_rfl, by kernel_rfl, by kernel_rfl, fun cy Y k => by kernel_rfl⟩
noncomputable def F257 : FFn := cF LV 0 [0, 1, 2, 3, 10, 15, 5, 6, 4, 7] Tryz.f257
noncomputable def G257 (E : Env) : ZFn := ⟨61, [0, 1, 2, 3, 10, 15, 5, 6, 4, 7], fun cy Y fuel =>
  (zSeq (zReg fun k => (zStep E (cy Y) ⟨.box 332 (.v 0), (.var 2), none, false, 0, (some 0)⟩) ((zStep E (cy Y) ⟨.box 81 (.v 1), (.var 3), none, false, 1, (some 1)⟩) ((zStep E (cy Y) ⟨.alloc 38, (.var 8), none, false, 2, (some 2)⟩) k)))
  (zSeq (zReg fun k => (zStep E (cy Y) ⟨.alloc 38, (.var 6), none, false, 0, (some 0)⟩) k)
  (zSeq (zReg fun k => (zStep E (cy Y) ⟨.mkFunc 338 [(.v 2), (.v 3)], .push, none, false, 0, none⟩) ((zStep E (cy Y) ⟨.alloc 395, (.var 7), none, false, 1, (some 0)⟩) ((zStep E (cy Y) ⟨.store 395 (.v 7) (.l 0), .none, none, false, 2, none⟩) k)))
  (zSeq (zSeq (zReg fun k => (zP (vFieldAddr 0 (.v 3))) ((zDstW (.var 4) (wLoad 1 false (.l 0))) k))
  (zBlock 0 (zSeq (zSeq (zReg fun k => (zP (vInt E fEql .eql 3 false true (.v 4) (.k (.int .i64 1)))) ((zV 5 (vMv (.l 0))) k))
  (zCond (.v 5) zSkip (zReg fun k => (zP (vInt E fEql .eql 3 false true (.v 4) (.k (.int .i64 2)))) ((zV 5 (vMv (.l 0))) k))))
  (zCond (.v 5) (zReg fun k => (zL 1 false (.v 2)) ((zCall (cy Y) 339 [(.l 0)] .push) ((zP (vFieldAddr 0 (.v 6))) ((zStep E (cy Y) ⟨.store 33 (.l 0) (.l 1), .none, none, false, 3, none⟩) k)))) (zSeq (zReg fun k => (zP (vInt E fEql .eql 3 false true (.v 4) (.k (.int .i64 3)))) ((zP (vMv (.l 0))) k))
  (zCond (.l 0) (zReg fun k => (zL 1 false (.v 2)) ((zL 1 false (.v 2)) ((zStep E (cy Y) ⟨.fail, .push, none, false, 2, none⟩) ((zCall (cy Y) 340 [(.l 2), (.l 0)] .push) ((zP (vFieldAddr 2 (.v 6))) ((zStep E (cy Y) ⟨.store 34 (.l 0) (.l 1), .none, none, false, 5, none⟩) k)))))) (zSeq (zReg fun k => (zP (vInt E fEql .eql 3 false true (.v 4) (.k (.int .i64 4)))) ((zP (vMv (.l 0))) k))
  (zCond (.l 0) (zReg fun k => (zL 1 false (.v 2)) ((zStep E (cy Y) ⟨.mkFunc 343 [(.v 6), (.v 2), (.v 7)], .push, none, false, 1, none⟩) ((zCall (cy Y) 342 [(.l 1), (.l 0)] .push) ((zP (vFieldAddr 4 (.v 6))) ((zStep E (cy Y) ⟨.store 36 (.l 0) (.l 1), .none, none, false, 4, none⟩) k))))) (zSeq (zReg fun k => (zP (vInt E fEql .eql 3 false true (.v 4) (.k (.int .i64 5)))) ((zP (vMv (.l 0))) k))
  (zCond (.l 0) (zDreg 3 fun n0 k => (zLD B57 0 1 false (.v 7)) ((zStepD E (cy Y) B57 n0 ⟨.callv (.l 0) [], .push, none, false, 1, (some 0)⟩) ((zLD B57 2 1 false (.v 2)) ((zPD (vFieldAddr 1 (.v 3))) ((zLD B57 4 1 false (.l 0)) ((zPD (vIndexAddr 2 (.l 0) (.k (.int .i64 1)))) ((zLD B57 6 2 true (.l 0)) ((zCallD (cy Y) B57 7 257 [(.l 4), (.l 0)] .push) ((zStepD E (cy Y) B57 n0 ⟨.buildSlice 36 2 [(0, (.l 6)), (1, (.l 0))], .push, none, false, 8, (some 2)⟩) ((zPD (vFieldAddr 4 (.v 6))) ((zStepD E (cy Y) B57 n0 ⟨.store 36 (.l 0) (.l 1), .none, none, false, 10, none⟩) k))))))))))) (zSeq (zReg fun k => (zP (vInt E fEql .eql 3 false true (.v 4) (.k (.int .i64 6)))) ((zP (vMv (.l 0))) k))
  (zCond (.l 0) (zSeq (zReg fun k => (zL 1 false (.v 2)) ((zCall (cy Y) 344 [(.l 0)] .push) ((zStep E (cy Y) ⟨.store 38 (.v 8) (.l 0), .none, none, false, 2, none⟩) k)))
  zRet) (zSeq (zReg fun k => (zP (vInt E fEql .eql 3 false true (.v 4) (.k (.int .i64 7)))) ((zP (vMv (.l 0))) k))
  (zCond (.l 0) (zSeq (zReg fun k => (zL 1 false (.v 2)) ((zCall (cy Y) 345 [(.l 0)] .push) ((zV 9 (vMv (.l 0))) k)))
  (zSeq (zReg fun k => (zP (vLenL (.v 9))) ((zP (vInt E fGtr .gtr 3 false true (.l 0) (.k (.int .i64 0)))) k))
  (zCond (.l 0) (zReg fun k => (zStep E (cy Y) ⟨.buildSlice 35 1 [(0, (.v 9))], .push, none, false, 1, (some 0)⟩) ((zP (vFieldAddr 3 (.v 6))) ((zStep E (cy Y) ⟨.store 35 (.l 0) (.l 1), .none, none, false, 3, none⟩) k))) zSkip))) (zReg fun k => (zL 1 false (.v 2)) ((zStep E (cy Y) ⟨.mkFunc 346 [(.v 6), (.v 2), (.v 7)], .push, none, false, 1, none⟩) ((zCall (cy Y) 342 [(.l 1), (.l 0)] .push) ((zP (vFieldAddr 4 (.v 6))) ((zStep E (cy Y) ⟨.store 36 (.l 0) (.l 1), .none, none, false, 4, none⟩) k)))))))))))))))))))
  (zSeq (zReg fun k => (zL 5 true (.v 6)) ((zStep E (cy Y) ⟨.store 38 (.v 8) (.l 0), .none, none, false, 1, none⟩) k))
  zRet))))), [.cell (.v 8) 38]⟩
theorem G257_ok (fn : Nat → Option Func) (pu : Nat → Bool) (pr : Nat → List AV → Option (Heap → Option (Eff × Acc))) : ZOk ⟨Tryz.tyT, fn, pu, pr⟩ npT F257 (G257 ⟨Tryz.tyT, fn, pu, pr⟩) := ⟨by kernel_rfl, by kernel_rfl, by kernel_rfl, fun cy Y k => by kernel_rfl⟩
noncomputable def F259 : FFn := cF LV 0 [0, 3, 2] Tryz.f259
noncomputable def G259 (E : Env) : ZFn := ⟨21, [0, 3, 2], fun cy Y fuel =>
  (zSeq (zReg fun k => (zV 2 (vMv (.k (.str [])))) k)
  (zSeq (zReg fun k => (zV 1 (vMv (.k (.sl 0 [] true)))) k)
  (zSeq (zBlock 0 (zLoop fuel (zSeq (zSeq (zReg fun k => (zP (vInt E (fGen .geq) .geq 33 false true (.v 0) (.k (.int .u64 128)))) k)
  (zCond (.l 0) zSkip (zExit 0)))
  (zSeq (zBlock 1 (zReg fun k => (zP (vMv (.v 1))) ((zP (vInt E (fGen .rem) .rem 33 false true (.v 0) (.k (.int .u64 128)))) ((zP (vInt E fAdd .add 33 false true (.l 0) (.k (.int .u64 128)))) ((zP (vConv .u8 (.l 0))) ((zStep E (cy Y) ⟨.buildSlice 28 1 [(0, (.l 0))], .push, none, false, 5, (some 0)⟩) ((zStep E (cy Y) ⟨.append 28 28 (.l 4) (.l 0), .push, none, false, 6, (some 1)⟩) ((zV 1 (vMv (.l 0))) k))))))))
  (zReg fun k => (zP (vMv (.v 0))) ((zP (vInt E (fGen .quo) .quo 33 false true (.l 0) (.k (.int .u64 128)))) ((zV 0 (vMv (.l 0))) k)))))))
  (zSeq (zReg fun k => (zP (vConv .u8 (.v 0))) ((zStep E (cy Y) ⟨.buildSlice 28 1 [(0, (.l 0))], .push, none, false, 3, (some 0)⟩) ((zStep E (cy Y) ⟨.append 28 28 (.v 1) (.l 0), .push, none, false, 4, (some 1)⟩) ((zStep E (cy Y) ⟨.conv 28 9 (.l 0), .push, none, false, 5, none⟩) ((zV 2 (vMv (.l 0))) k)))))
  zRet)))), [.tmp (.v 2)]⟩
theorem G259_ok (fn : Nat → Option Func) (pu : Nat → Bool) (pr : Nat → List AV → Option (Heap → Option (Eff × Acc))) : ZOk ⟨Tryz.tyT, fn, pu, pr⟩ npT F259 (G259 ⟨Tryz.tyT, fn, pu, pr⟩) := ⟨by kernel_rfl, by kernel_rfl, by kernel_rfl, fun cy Y k => by kernel_rfl⟩
noncomputable def F260 : FFn := cF LV 0 [1, 2, 4, 14, 44, 0, 5, 51, 63, 62, 61, 7, 6, 122, 121, 120, 9, 10, 24, 23, 22, 12, 11] Tryz.f260
noncomputable def G260 (E : Env) : ZFn := ⟨154, [1, 2, 4, 14, 44, 0, 5, 51, 63, 62, 61, 7, 6, 122, 121, 120, 9, 10, 24, 23, 22, 12, 11], fun cy Y fuel =>
  (zSeq (zReg fun k => (zStep E (cy Y) ⟨.box 81 (.v 0), (.var 2), none, false, 0, (some 0)⟩) ((zStep E (cy Y) ⟨.box 38 (.v 1), (.var 6), none, false, 1, (some 1)⟩) k))
  (zSeq (zReg fun k => (zP (vFieldAddr 0 (.v 2))) ((zDstW (.var 3) (wLoad 1 false (.l 0))) k))
  (zBlock 0 (zSeq (zSeq (zReg fun k => (zP (vInt E fEql .eql 3 false true (.v 3) (.k (.int .i64 1)))) ((zV 4 (vMv (.l 0))) k))
  (zCond (.v 4) zSkip (zReg fun k => (zP (vInt E fEql .eql 3 false true (.v 3) (.k (.int .i64 2)))) ((zV 4 (vMv (.l 0))) k))))
  (zCond (.v 4) (zReg fun k => (zP (vFieldAddr 0 (.v 6))) ((zL 1 false (.l 0)) ((zCall (cy Y) 347 [(.v 5), (.l 0)] .push) k))) (zSeq (zSeq (zReg fun k => (zP (vInt E fEql .eql 3 false true (.v 3) (.k (.int .i64 3)))) ((zV 7 (vMv (.l 0))) k))
  (zCond (.v 7) zSkip (zReg fun k => (zP (vInt E fEql .eql 3 false true (.v 3) (.k (.int .i64 4)))) ((zV 7 (vMv (.l 0))) k))))
  (zCond (.v 7) (zSeq (zReg fun k => (zP (vFieldAddr 2 (.v 6))) ((zL 1 false (.l 0)) ((zP (vLenL (.l 0))) ((zP (vConv .u64 (.l 0))) ((zCall (cy Y) 347 [(.v 5), (.l 0)] .push) k)))))
  (zSeq (zReg fun k => (zP (vFieldAddr 2 (.v 6))) ((zDstW (.var 10) (wLoad 1 false (.l 0))) ((zV 9 (vLenL (.v 10))) ((zV 8 (vMv (.k (.int .i64 0)))) k))))
  (zBlock 3 (zLoop fuel (zSeq (zReg fun k => (zP (vInt E fLss .lss 3 false false (.v 8) (.v 9))) k)
  (zSeq (zCond (.l 0) zSkip (zExit 3))
  (zSeq (zBlock 4 (zSeq (zReg fun k => (zP (vIndexAddr 1 (.v 10) (.v 8))) ((zL 1 false (.l 0)) ((zV 12 (vMv (.v 8))) ((zV 11 (vMv (.l 0))) k))))
  (zSeq (zDreg 2 fun n0 k => (zPD (vNilCheck (.v 5))) ((zPD (vFieldAddr 0 (.l 0))) ((zCallD (cy Y) B58 4 196 [(.v 11)] .push) ((zCallD (cy Y) B58 5 348 [(.l 1), (.l 0)] .push) k))))
  (zSeq (zReg fun k => (zP (vFieldAddr 0 (.v 2))) ((zL 1 false (.l 0)) ((zP (vInt E fEql .eql 3 false true (.l 0) (.k (.int .i64 4)))) k)))
  (zCond (.l 0) (zDreg 1 fun n0 k => (zPD (vFieldAddr 1 (.v 2))) ((zLD B59 2 1 false (.l 0)) ((zPD (vIndexAddr 2 (.l 0) (.k (.int .i64 0)))) ((zLD B59 4 2 true (.l 0)) ((zPD (vFieldAddr 4 (.v 6))) ((zLD B59 6 1 false (.l 0)) ((zPD (vIndexAddr 5 (.l 0) (.v 12))) ((zLD B59 9 5 true (.l 0)) ((zCallD (cy Y) B59 10 260 [(.v 5), (.l 4), (.l 0)] .push) k))))))))) zSkip)))))
  (zReg fun k => (zP (vInt E fAdd .add 3 false true (.v 8) (.k (.int .i64 1)))) ((zV 8 (vMv (.l 0))) k))))))))) (zSeq (zReg fun k => (zP (vInt E fEql .eql 3 false true (.v 3) (.k (.int .i64 5)))) ((zP (vMv (.l 0))) k))
  (zCond (.l 0) (zSeq (zDreg 1 fun n0 k => (zPD (vFieldAddr 1 (.v 2))) ((zLD B60 2 1 false (.l 0)) ((zPD (vIndexAddr 2 (.l 0) (.k (.int .i64 0)))) ((zLD B60 4 2 true (.l 0)) ((zPD (vFieldAddr 4 (.v 6))) ((zLD B60 6 1 false (.l 0)) ((zPD (vIndexAddr 5 (.l 0) (.k (.int .i64 0)))) ((zLD B60 8 5 true (.l 0)) ((zCallD (cy Y) B60 9 260 [(.v 5), (.l 4), (.l 0)] .push) k)))))))))
  (zDreg 1 fun n0 k => (zPD (vFieldAddr 1 (.v 2))) ((zLD B60 2 1 false (.l 0)) ((zPD (vIndexAddr 2 (.l 0) (.k (.int .i64 1)))) ((zLD B60 4 2 true (.l 0)) ((zPD (vFieldAddr 4 (.v 6))) ((zLD B60 6 1 false (.l 0)) ((zPD (vIndexAddr 5 (.l 0) (.k (.int .i64 1)))) ((zLD B60 8 5 true (.l 0)) ((zCallD (cy Y) B60 9 260 [(.v 5), (.l 4), (.l 0)] .push) k)))))))))) (zSeq (zReg fun k => (zP (vInt E fEql .eql 3 false true (.v 3) (.k (.int .i64 6)))) ((zP (vMv (.l 0))) k))
  (zCond (.l 0) (zSeq (zReg fun k => (zP (vFieldAddr 2 (.v 6))) ((zL 1 false (.l 0)) ((zP (vLenL (.l 0))) ((zP (vConv .u64 (.l 0))) ((zCall (cy Y) 347 [(.v 5), (.l 0)] .push) k)))))
  (zSeq (zReg fun k => (zP (vFieldAddr 2 (.v 6))) ((zDstW (.var 15) (wLoad 1 false (.l 0))) ((zV 14 (vLenL (.v 15))) ((zV 13 (vMv (.k (.int .i64 0)))) k))))
  (zBlock 5 (zLoop fuel (zSeq (zReg fun k => (zP (vInt E fLss .lss 3 false false (.v 13) (.v 14))) k)
  (zSeq (zCond (.l 0) zSkip (zExit 5))
  (zSeq (zBlock 6 (zSeq (zReg fun k => (zP (vIndexAddr 1 (.v 15) (.v 13))) ((zL 1 false (.l 0)) ((zV 16 (vMv (.l 0))) k)))
  (zSeq (zReg fun k => (zP (vFieldAddr 0 (.v 6))) ((zL 1 false (.l 0)) ((zCall (cy Y) 347 [(.v 5), (.l 0)] .push) k)))
  (zSeq (zReg fun k => (zP (vFieldAddr 1 (.v 6))) ((zL 1 false (.l 0)) ((zCall (cy Y) 347 [(.v 5), (.l 0)] .push) k)))
  (zDreg 2 fun n0 k => (zPD (vNilCheck (.v 5))) ((zPD (vFieldAddr 0 (.l 0))) ((zCallD (cy Y) B58 4 196 [(.v 16)] .push) ((zCallD (cy Y) B58 5 348 [(.l 1), (.l 0)] .push) k))))))))
  (zReg fun k => (zP (vInt E fAdd .add 3 false true (.v 13) (.k (.int .i64 1)))) ((zV 13 (vMv (.l 0))) k))))))))) (zSeq (zReg fun k => (zP (vInt E fEql .eql 3 false true (.v 3) (.k (.int .i64 7)))) ((zP (vMv (.l 0))) k))
  (zCond (.l 0) (zSeq (zReg fun k => (zV 17 (vMv (.k (.sl 0 [] true)))) k)
  (zSeq (zSeq (zReg fun k => (zP (vFieldAddr 3 (.v 6))) ((zL 1 false (.l 0)) ((zP (vLenL (.l 0))) ((zP (vInt E fGtr .gtr 3 false true (.l 0) (.k (.int .i64 0)))) k))))
  (zCond (.l 0) (zReg fun k => (zP (vFieldAddr 3 (.v 6))) ((zL 1 false (.l 0)) ((zP (vIndexAddr 1 (.l 0) (.k (.int .i64 0)))) ((zL 1 false (.l 0)) ((zV 17 (vMv (.l 0))) k))))) zSkip))
  (zReg fun k => (zCall (cy Y) 349 [(.v 5), (.v 17)] .push) k))) (zSeq (zReg fun k => (zP (vFieldAddr 3 (.v 6))) ((zL 1 false (.l 0)) ((zP (vLenL (.l 0))) ((zP (vConv .u64 (.l 0))) ((zCall (cy Y) 347 [(.v 5), (.l 0)] .push) k)))))
  (zSeq (zReg fun k => (zP (vFieldAddr 3 (.v 6))) ((zDstW (.var 20) (wLoad 1 false (.l 0))) ((zV 19 (vLenL (.v 20))) ((zV 18 (vMv (.k (.int .i64 0)))) k))))
  (zBlock 1 (zLoop fuel (zSeq (zReg fun k => (zP (vInt E fLss .lss 3 false false (.v 18) (.v 19))) k)
  (zSeq (zCond (.l 0) zSkip (zExit 1))
  (zSeq (zBlock 2 (zSeq (zReg fun k => (zP (vIndexAddr 1 (.v 20) (.v 18))) ((zL 1 false (.l 0)) ((zV 22 (vMv (.v 18))) ((zV 21 (vMv (.l 0))) k))))
  (zSeq (zReg fun k => (zCall (cy Y) 349 [(.v 5), (.v 21)] .push) k)
  (zDreg 1 fun n0 k => (zPD (vFieldAddr 1 (.v 2))) ((zLD B59 2 1 false (.l 0)) ((zPD (vIndexAddr 2 (.l 0) (.k (.int .i64 0)))) ((zLD B59 4 2 true (.l 0)) ((zPD (vFieldAddr 4 (.v 6))) ((zLD B59 6 1 false (.l 0)) ((zPD (vIndexAddr 5 (.l 0) (.v 22))) ((zLD B59 9 5 true (.l 0)) ((zCallD (cy Y) B59 10 260 [(.v 5), (.l 4), (.l 0)] .push) k))))))))))))
  (zReg fun k => (zP (vInt E fAdd .add 3 false true (.v 18) (.k (.int .i64 1)))) ((zV 18 (vMv (.l 0))) k)))))))))))))))))))))), []⟩
theorem G260_ok (fn : Nat → Option Func) (pu : Nat → Bool) (pr : Nat → List AV → Option (Heap → Option (Eff × Acc))) : ZOk ⟨Tryz.tyT, fn, pu, pr⟩ npT F260 (G260 ⟨Tryz.tyT, fn, pu, pr⟩) := ⟨by kernel_rfl, by kernel_rfl, by kernel_rfl, fun cy Y k => by kernel_rfl⟩
noncomputable def F262 : FFn := cF LV 0 [0, 1, 15, 14, 2, 7, 6] Tryz.f262
noncomputable def G262 (E : Env) : ZFn := ⟨30, [0, 1, 15, 14, 2, 7, 6], fun cy Y fuel =>
  (zSeq (zReg fun k => (zV 6 (vMv (.k (.bool false)))) k)
  (zSeq (zSeq (zReg fun k => (zP (vLenL (.v 0))) ((zP (vLenL (.v 1))) ((zP (vInt E fNeq .neq 3 false false (.l 1) (.l 0))) k)))
  (zCond (.l 0) (zSeq (zReg fun k => (zV 6 (vMv (.k (.bool false)))) k)
  zRet) zSkip))
  (zSeq (zSeq (zReg fun k => (zV 3 (vLenL (.v 0))) ((zV 2 (vMv (.k (.int .i64 0)))) k))
  (zBlock 0 (zLoop fuel (zSeq (zReg fun k => (zP (vInt E fLss .lss 3 false false (.v 2) (.v 3))) k)
  (zSeq (zCond (.l 0) zSkip (zExit 0))
  (zSeq (zBlock 1 (zSeq (zReg fun k => (zV 5 (vMv (.v 2))) k)
  (zSeq (zDreg 1 fun n0 k => (zPD (vIndexAddr 2 (.v 0) (.v 5))) ((zLD B61 4 2 true (.l 0)) ((zPD (vIndexAddr 2 (.v 1) (.v 5))) ((zLD B61 8 2 true (.l 0)) ((zStepD E (cy Y) B61 n0 ⟨.callv (.v 4) [(.l 2), (.l 0)], .push, none, false, 9, (some 0)⟩) ((zPD (vNot (.l 0))) k))))))
  (zCond (.l 0) (zSeq (zReg fun k => (zV 6 (vMv (.k (.bool false)))) k)
  zRet) zSkip))))
  (zReg fun k => (zP (vInt E fAdd .add 3 false true (.v 2) (.k (.int .i64 1)))) ((zV 2 (vMv (.l 0))) k))))))))
  (zSeq (zReg fun k => (zV 6 (vMv (.k (.bool true)))) k)
  zRet)))), [.tmp (.v 6)]⟩
theorem G262_ok (fn : Nat → Option Func) (pu : Nat → Bool) (pr : Nat → List AV → Option (Heap → Option (Eff × Acc))) : ZOk ⟨Tryz.tyT, fn, pu, pr⟩ npT F262 (G262 ⟨Tryz.tyT, fn, pu, pr⟩) := ⟨by kernel_rfl, by kernel_rfl, by kernel_rfl, fun cy Y k => by kernel_rfl⟩
noncomputable def F263 : FFn := cF LV 0 [0, 1, 17, 16, 15, 7, 2, 8, 9, 6] Tryz.f263
noncomputable def G263 (E : Env) : ZFn := ⟨32, [0, 1, 17, 16, 15, 7, 2, 8, 9, 6], fun cy Y fuel =>
  (zSeq (zReg fun k => (zV 9 (vMv (.k (.bool false)))) k)
  (zSeq (zSeq (zReg fun k => (zP (vLenL (.v 0))) ((zP (vLenL (.v 1))) ((zP (vInt E fNeq .neq 3 false false (.l 1) (.l 0))) k)))
  (zCond (.l 0) (zSeq (zReg fun k => (zV 9 (vMv (.k (.bool false)))) k)
  zRet) zSkip))
  (zSeq (zSeq (zReg fun k => (zV 4 (vMv (.v 0))) ((zV 3 (vLenL (.v 4))) ((zV 2 (vMv (.k (.int .i64 0)))) k)))
  (zBlock 0 (zLoop fuel (zSeq (zReg fun k => (zP (vInt E fLss .lss 3 false false (.v 2) (.v 3))) k)
  (zSeq (zCond (.l 0) zSkip (zExit 0))
  (zSeq (zBlock 1 (zSeq (zReg fun k => (zP (vIndexAddr 1 (.v 4) (.v 2))) ((zL 1 false (.l 0)) ((zV 5 (vMv (.v 2))) ((zV 7 (vMv (.l 0))) k))))
  (zSeq (zReg fun k => (zP (vIndexAddr 1 (.v 1) (.v 5))) ((zL 1 false (.l 0)) ((zV 8 (vMv (.l 0))) k)))
  (zSeq (zReg fun k => (zStep E (cy Y) ⟨.callv (.v 6) [(.v 7), (.v 8)], .push, none, false, 3, (some 0)⟩) ((zP (vNot (.l 0))) k))
  (zCond (.l 0) (zSeq (zReg fun k => (zV 9 (vMv (.k (.bool false)))) k)
  zRet) zSkip)))))
  (zReg fun k => (zP (vInt E fAdd .add 3 false true (.v 2) (.k (.int .i64 1)))) ((zV 2 (vMv (.l 0))) k))))))))
  (zSeq (zReg fun k => (zV 9 (vMv (.k (.bool true)))) k)
  zRet)))), [.tmp (.v 9)]⟩
theorem G263_ok (fn : Nat → Option Func) (pu : Nat → Bool) (pr : Nat → List AV → Option (Heap → Option (Eff × Acc))) : ZOk ⟨Tryz.tyT, fn, pu, pr⟩ npT F263 (G263 ⟨Tryz.tyT, fn, pu, pr⟩) := ⟨by kernel_rfl, by kernel_rfl, by kernel_rfl, fun cy Y k => by kernel_rfl⟩
noncomputable def F265 : FFn := cF LV 0 [0, 1, 17, 16, 15, 7, 2, 8, 9, 6] Tryz.f265
noncomputable def G265 (E : Env) : ZFn := ⟨32, [0, 1, 17, 16, 15, 7, 2, 8, 9, 6], fun cy Y fuel =>
  (zSeq (zReg fun k => (zV 9 (vMv (.k (.bool false)))) k)
  (zSeq (zSeq (zReg fun k => (zP (vLenL (.v 0))) ((zP (vLenL (.v 1))) ((zP (vInt E fNeq .neq 3 false false (.l 1) (.l 0))) k)))
  (zCond (.l 0) (zSeq (zReg fun k => (zV 9 (vMv (.k (.bool false)))) k)
  zRet) zSkip))
  (zSeq (zSeq (zReg fun k => (zV 4 (vMv (.v 0))) ((zV 3 (vLenL (.v 4))) ((zV 2 (vMv (.k (.int .i64 0)))) k)))
  (zBlock 0 (zLoop fuel (zSeq (zReg fun k => (zP (vInt E fLss .lss 3 false false (.v 2) (.v 3))) k)
  (zSeq (zCond (.l 0) zSkip (zExit 0))
  (zSeq (zBlock 1 (zSeq (zReg fun k => (zP (vIndexAddr 5 (.v 4) (.v 2))) ((zL 5 true (.l 0)) ((zStep E (cy Y) ⟨.alloc 38, (.var 7), none, false, 3, (some 0)⟩) ((zV 5 (vMv (.v 2))) ((zStep E (cy Y) ⟨.store 38 (.v 7) (.l 0), .none, none, false, 5, none⟩) k)))))
  (zSeq (zReg fun k => (zP (vIndexAddr 5 (.v 1) (.v 5))) ((zL 5 true (.l 0)) ((zStep E (cy Y) ⟨.alloc 38, (.var 8), none, false, 4, (some 0)⟩) ((zStep E (cy Y) ⟨.store 38 (.v 8) (.l 0), .none, none, false, 5, none⟩) k))))
  (zSeq (zReg fun k => (zL 5 true (.v 7)) ((zL 5 true (.v 8)) ((zStep E (cy Y) ⟨.callv (.v 6) [(.l 1), (.l 0)], .push, none, false, 3, (some 0)⟩) ((zP (vNot (.l 0))) k))))
  (zCond (.l 0) (zSeq (zReg fun k => (zV 9 (vMv (.k (.bool false)))) k)
  zRet) zSkip)))))
  (zReg fun k => (zP (vInt E fAdd .add 3 false true (.v 2) (.k (.int .i64 1)))) ((zV 2 (vMv (.l 0))) k))))))))
  (zSeq (zReg fun k => (zV 9 (vMv (.k (.bool true)))) k)
  zRet)))), [.tmp (.v 9)]⟩
theorem G265_ok (fn : Nat → Option Func) (pu : Nat → Bool) (pr : Nat → List AV → Option (Heap → Option (Eff × Acc))) : ZOk ⟨Tryz.tyT, fn, pu, pr⟩ npT F265 (G265 ⟨Tryz.tyT, fn, pu, pr⟩) := ⟨by kernel_rfl, by kernel_rfl, by kernel_rfl, fun cy Y k => by kernel_rfl⟩
noncomputable def F268 : FFn := cF LV 0 [4, 0, 5, 2, 3] Tryz.f268
noncomputable def G268 (E : Env) : ZFn := ⟨21, [4, 0, 5, 2, 3], fun cy Y fuel =>
  (zSeq (zReg fun k => (zStep E (cy Y) ⟨.alloc 348, (.var 3), none, false, 0, (some 0)⟩) ((zV 4 (vMv (.k (.bool false)))) k))
  (zSeq (zSeq (zReg fun k => (zV 0 (vMv (.k (.int .i64 0)))) k)
  (zBlock 0 (zLoop fuel (zSeq (zSeq (zReg fun k => (zP (vLenS (.v 1))) ((zP (vInt E fLss .lss 3 false false (.v 0) (.l 0))) k))
  (zCond (.l 0) zSkip (zExit 0)))
  (zSeq (zBlock 1 (zSeq (zReg fun k => (zStep E (cy Y) ⟨.index 9 (.v 1) (.v 0), .push, none, false, 2, none⟩) ((zV 2 (vMv (.l 0))) k))
  (zSeq (zSeq (zReg fun k => (zP (vInt E (fGen .geq) .geq 5 false true (.v 2) (.k (.int .u8 128)))) k)
  (zCond (.l 0) (zSeq (zReg fun k => (zL 256 true (.v 3)) ((zStep E (cy Y) ⟨.store 348 (.v 3) (.l 0), .none, none, false, 1, none⟩) ((zV 4 (vMv (.k (.bool false)))) k)))
  zRet) zSkip))
  (zReg fun k => (zStep E (cy Y) ⟨.indexAddr 348 (.v 3) (.v 2), .push, none, true, 1, none⟩) ((zStep E (cy Y) ⟨.store 4 (.l 0) (.k (.bool true)), .none, none, false, 2, none⟩) k)))))
  (zReg fun k => (zP (vMv (.v 0))) ((zP (vInt E fAdd .add 3 false true (.l 0) (.k (.int .i64 1)))) ((zV 0 (vMv (.l 0))) k))))))))
  (zSeq (zReg fun k => (zL 256 true (.v 3)) ((zStep E (cy Y) ⟨.store 348 (.v 3) (.l 0), .none, none, false, 1, none⟩) ((zV 4 (vMv (.k (.bool true)))) k)))
  zRet))), [.cell (.v 3) 348, .tmp (.v 4)]⟩
theorem G268_ok (fn : Nat → Option Func) (pu : Nat → Bool) (pr : Nat → List AV → Option (Heap → Option (Eff × Acc))) : ZOk ⟨Tryz.tyT, fn, pu, pr⟩ npT F268 (G268 ⟨Tryz.tyT, fn, pu, pr⟩) := ⟨by kernel_rfl, by kernel_rfl, by kernel_rfl, fun cy Y k => by kernel_rfl⟩
noncomputable def F269 : FFn := cF LV 0 [0, 1, 4] Tryz.f269
noncomputable def G269 (E : Env) : ZFn := ⟨16, [0, 1, 4], fun cy Y fuel =>
  (zSeq (zReg fun k => (zV 2 (vMv (.k (.str [])))) k)
  (zSeq (zBlock 0 (zLoop fuel (zSeq (zSeq (zReg fun k => (zP (vLenS (.v 0))) ((zP (vInt E fGtr .gtr 3 false true (.l 0) (.k (.int .i64 0)))) k))
  (zCond (.l 0) zSkip (zExit 0)))
  (zBlock 1 (zSeq (zSeq (zReg fun k => (zStep E (cy Y) ⟨.index 9 (.v 0) (.k (.int .i64 0)), .push, none, false, 2, none⟩) ((zCall (cy Y) 350 [(.v 1), (.l 0)] .push) ((zP (vNot (.l 0))) k)))
  (zCond (.l 0) (zExit 0) zSkip))
  (zReg fun k => (zP (vMv (.v 0))) ((zStep E (cy Y) ⟨.slice 9 (.l 0) (some (.k (.int .i64 1))) none none, .push, none, false, 1, none⟩) ((zV 0 (vMv (.l 0))) k))))))))
  (zSeq (zReg fun k => (zV 2 (vMv (.v 0))) k)
  zRet))), [.tmp (.v 2)]⟩
theorem G269_ok (fn : Nat → Option Func) (pu : Nat → Bool) (pr : Nat → List AV → Option (Heap → Option (Eff × Acc))) : ZOk ⟨Tryz.tyT, fn, pu, pr⟩ npT F269 (G269 ⟨Tryz.tyT, fn, pu, pr⟩) := ⟨by kernel_rfl, by kernel_rfl, by kernel_rfl, fun cy Y k => by kernel_rfl⟩
noncomputable def F270 : FFn := cF LV 0 [0, 1, 4] Tryz.f270
noncomputable def G270 (E : Env) : ZFn := ⟨22, [0, 1, 4], fun cy Y fuel =>
  (zSeq (zReg fun k => (zV 2 (vMv (.k (.str [])))) k)
  (zSeq (zBlock 0 (zLoop fuel (zSeq (zSeq (zReg fun k => (zP (vLenS (.v 0))) ((zP (vInt E fGtr .gtr 3 false true (.l 0) (.k (.int .i64 0)))) k))
  (zCond (.l 0) zSkip (zExit 0)))
  (zBlock 1 (zSeq (zSeq (zReg fun k => (zP (vLenS (.v 0))) ((zP (vInt E fSub .sub 3 false true (.l 0) (.k (.int .i64 1)))) ((zStep E (cy Y) ⟨.index 9 (.v 0) (.l 0), .push, none, false, 5, none⟩) ((zCall (cy Y) 350 [(.v 1), (.l 0)] .push) ((zP (vNot (.l 0))) k)))))
  (zCond (.l 0) (zExit 0) zSkip))
  (zReg fun k => (zP (vMv (.v 0))) ((zP (vMv (.v 0))) ((zP (vLenS (.l 0))) ((zP (vInt E fSub .sub 3 false true (.l 0) (.k (.int .i64 1)))) ((zStep E (cy Y) ⟨.slice 9 (.l 3) none (some (.l 0)) none, .push, none, false, 4, none⟩) ((zV 0 (vMv (.l 0))) k)))))))))))
  (zSeq (zReg fun k => (zV 2 (vMv (.v 0))) k)
  zRet))), [.tmp (.v 2)]⟩
theorem G270_ok (fn : Nat → Option Func) (pu : Nat → Bool) (pr : Nat → List AV → Option (Heap → Option (Eff × Acc))) : ZOk ⟨Tryz.tyT, fn, pu, pr⟩ npT F270 (G270 ⟨Tryz.tyT, fn, pu, pr⟩) := ⟨by kernel_rfl, by kernel_rfl, by kernel_rfl, fun cy Y k => by kernel_rfl⟩
noncomputable def F273 : FFn := cF LV 0 [1, 0, 5, 3, 6, 7, 8, 4] Tryz.f273
noncomputable def G273 (E : Env) : ZFn := ⟨87, [1, 0, 5, 3, 6, 7, 8, 4], fun cy Y fuel =>
  (zSeq (zReg fun k => (zStep E (cy Y) ⟨.box 38 (.v 0), (.var 3), none, false, 0, (some 0)⟩) ((zV 7 (vMv (.k (.bool false)))) k))
  (zSeq (zReg fun k => (zP (vInt E fEql .eql 3 false true (.v 1) (.k (.int .i64 1)))) ((zG (.l 0) false .push (zP (vMv (.v 1)))) ((zG (.l 1) false .push (zP (vInt E fEql .eql 3 false true (.l 0) (.k (.int .i64 2))))) ((zP (vPick (.l 2) (.k (.bool true)) (.l 0))) ((zG (.l 0) false .push (zP (vMv (.v 1)))) ((zG (.l 1) false .push (zP (vInt E fEql .eql 3 false true (.l 0) (.k (.int .i64 6))))) ((zP (vPick (.l 2) (.k (.bool true)) (.l 0))) ((zV 2 (vMv (.l 0))) k))))))))
  (zSeq (zReg fun k => (zP (vInt E fEql .eql 3 false true (.v 1) (.k (.int .i64 3)))) ((zG (.l 0) false .push (zP (vMv (.v 1)))) ((zG (.l 1) false .push (zP (vInt E fEql .eql 3 false true (.l 0) (.k (.int .i64 4))))) ((zP (vPick (.l 2) (.k (.bool true)) (.l 0))) ((zG (.l 0) false .push (zP (vMv (.v 1)))) ((zG (.l 1) false .push (zP (vInt E fEql .eql 3 false true (.l 0) (.k (.int .i64 6))))) ((zP (vPick (.l 2) (.k (.bool true)) (.l 0))) ((zV 4 (vMv (.l 0))) k))))))))
  (zSeq (zReg fun k => (zP (vInt E fEql .eql 3 false true (.v 1) (.k (.int .i64 7)))) ((zG (.l 0) false .push (zP (vMv (.v 1)))) ((zG (.l 1) false .push (zP (vInt E fEql .eql 3 false true (.l 0) (.k (.int .i64 8))))) ((zP (vPick (.l 2) (.k (.bool true)) (.l 0))) ((zV 5 (vMv (.l 0))) k)))))
  (zSeq (zReg fun k => (zP (vInt E fEql .eql 3 false true (.v 1) (.k (.int .i64 4)))) ((zG (.l 0) false .push (zP (vMv (.v 1)))) ((zG (.l 1) false .push (zP (vInt E fEql .eql 3 false true (.l 0) (.k (.int .i64 5))))) ((zP (vPick (.l 2) (.k (.bool true)) (.l 0))) ((zG (.l 0) false .push (zP (vMv (.v 1)))) ((zG (.l 1) false .push (zP (vInt E fEql .eql 3 false true (.l 0) (.k (.int .i64 8))))) ((zP (vPick (.l 2) (.k (.bool true)) (.l 0))) ((zV 6 (vMv (.l 0))) k))))))))
  (zSeq (zReg fun k => (zG (.v 2) false .push (zP (vFieldAddr 0 (.v 3)))) ((zG (.v 2) false .push (zL 1 false (.l 0))) ((zG (.v 2) false .push (zP (vInt E fEql .eql 33 false true (.l 0) (.k (.int .u64 0))))) ((zP (vPick (.v 2) (.k (.bool true)) (.l 0))) ((zG (.l 0) true .push (zP (vMv (.v 1)))) ((zG (.l 1) true .push (zP (vInt E fEql .eql 3 false true (.l 0) (.k (.int .i64 6))))) ((zG (.l 2) true .push (zP (vMv (.l 0)))) ((zG (.l 0) false .push (zP (vFieldAddr 1 (.v 3)))) ((zG (.l 1) false .push (zL 1 false (.l 0))) ((zG (.l 2) false .push (zP (vInt E fEql .eql 33 false true (.l 0) (.k (.int .u64 0))))) ((zG (.l 6) true .push (zP (vPick (.l 3) (.k (.bool true)) (.l 0)))) ((zP (vPick (.l 7) (.l 0) (.k (.bool false)))) ((zG (.l 0) true .push (zP (vMv (.v 4)))) ((zG (.l 1) true .push (zP (vMv (.l 0)))) ((zG (.l 0) false .push (zP (vFieldAddr 2 (.v 3)))) ((zG (.l 1) false .push (zL 1 false (.l 0))) ((zG (.l 2) false .push (zP (vLenL (.l 0)))) ((zG (.l 3) false .push (zP (vInt E fEql .eql 3 false true (.l 0) (.k (.int .i64 0))))) ((zG (.l 6) true .push (zP (vPick (.l 4) (.k (.bool true)) (.l 0)))) ((zP (vPick (.l 7) (.l 0) (.k (.bool false)))) ((zG (.l 0) true .push (zP (vMv (.v 5)))) ((zG (.l 1) true .push (zP (vMv (.l 0)))) ((zG (.l 0) false .push (zP (vFieldAddr 3 (.v 3)))) ((zG (.l 1) false .push (zL 1 false (.l 0))) ((zG (.l 2) false .push (zP (vLenL (.l 0)))) ((zG (.l 3) false .push (zP (vInt E fEql .eql 3 false true (.l 0) (.k (.int .i64 0))))) ((zG (.l 6) true .push (zP (vPick (.l 4) (.k (.bool true)) (.l 0)))) ((zP (vPick (.l 7) (.l 0) (.k (.bool false)))) ((zG (.l 0) true .push (zP (vMv (.v 6)))) ((zG (.l 1) true .push (zP (vMv (.l 0)))) ((zG (.l 0) false .push (zP (vFieldAddr 4 (.v 3)))) ((zG (.l 1) false .push (zL 1 false (.l 0))) ((zG (.l 2) false .push (zP (vLenL (.l 0)))) ((zG (.l 3) false .push (zP (vInt E fEql .eql 3 false true (.l 0) (.k (.int .i64 0))))) ((zG (.l 6) true .push (zP (vPick (.l 4) (.k (.bool true)) (.l 0)))) ((zP (vPick (.l 7) (.l 0) (.k (.bool false)))) ((zV 7 (vMv (.l 0))) k)))))))))))))))))))))))))))))))))))))
  zRet)))))), [.tmp (.v 7)]⟩
theorem G273_ok (fn : Nat → Option Func) (pu : Nat → Bool) (pr : Nat → List AV → Option (Heap → Option (Eff × Acc))) : ZOk ⟨Tryz.tyT, fn, pu, pr⟩ npT F273 (G273 ⟨Tryz.tyT, fn, pu, pr⟩) := ⟨by kernel_rfl, by kernel_rfl, by kernel_rfl, fun cy Y k => by kernel_rfl⟩
noncomputable def F282 : FFn := cF LV 0 [3, 1, 0] Tryz.f282
noncomputable def G282 (E : Env) : ZFn := ⟨22, [3, 1, 0], fun cy Y fuel =>
  (zSeq (zReg fun k => (zV 0 (vMv (.k (.int .i64 1)))) k)
  (zBlock 0 (zLoop fuel (zSeq (zSeq (zReg fun k => (zL 1 false (.v 1)) ((zP (vLenL (.l 0))) ((zP (vInt E fLss .lss 3 false false (.v 0) (.l 0))) k)))
  (zCond (.l 0) zSkip (zExit 0)))
  (zSeq (zBlock 1 (zSeq (zDreg 1 fun n0 k => (zLD B62 1 1 false (.v 1)) ((zPD (vInt E fSub .sub 3 false true (.v 0) (.k (.int .i64 1)))) ((zPD (vIndexAddr 1 (.l 1) (.l 0))) ((zLD B62 5 1 false (.l 0)) ((zLD B62 6 1 false (.v 1)) ((zPD (vIndexAddr 1 (.l 0) (.v 0))) ((zLD B62 9 1 false (.l 0)) ((zStepD E (cy Y) B62 n0 ⟨.callv (.v 2) [(.l 3), (.l 0)], .push, none, false, 10, (some 0)⟩) ((zPD (vNot (.l 0))) k)))))))))
  (zCond (.l 0) zRet zSkip)))
  (zReg fun k => (zP (vMv (.v 0))) ((zP (vInt E fAdd .add 3 false true (.l 0) (.k (.int .i64 1)))) ((zV 0 (vMv (.l 0))) k)))))))), []⟩
theorem G282_ok (fn : Nat → Option Func) (pu : Nat → Bool) (pr : Nat → List AV → Option (Heap → Option (Eff × Acc))) : ZOk ⟨Tryz.tyT, fn, pu, pr⟩ npT F282 (G282 ⟨Tryz.tyT, fn, pu, pr⟩) := ⟨by kernel_rfl, by kernel_rfl, by kernel_rfl, fun cy Y k => by kernel_rfl⟩
noncomputable def F283 : FFn := cF LV 17 [0, 1, 2, 3] Tryz.f283
noncomputable def G283 (E : Env) : ZFn := ⟨16, [0, 1, 2, 3], fun cy Y fuel =>
  (zSeq (zReg fun k => (zStep E (cy Y) ⟨.box 294 (.v 0), (.var 3), none, false, 0, (some 0)⟩) k)
  (zSeq (zReg fun k => (zL 1 false (.v 1)) k)
  (zBlock 0 (zRange cy Y (.l 0) 17 [none, (some (.v 2)), none, (some (.v 3))] [none, none, (some (.v 2)), (some (.v 3)), none, none, none, none, none, none, none, none, none, none, none, none] [6] (codeAt [1, 1, 0, 0] (bodyOf Tryz.f283)) (codeAt [1, 1, 0, 1] (bodyOf Tryz.f283)))))), []⟩
theorem G283_ok (fn : Nat → Option Func) (pu : Nat → Bool) (pr : Nat → List AV → Option (Heap → Option (Eff × Acc))) : ZOk ⟨Tryz.tyT, fn, pu, pr⟩ npT F283 (G283 ⟨Tryz.tyT, fn, pu, pr⟩) := ⟨by kernel_rfl, by kernel_rfl, by kernel_rfl, fun cy Y k => by kernel_rfl⟩
noncomputable def F284 : FFn := cF LV 0 [1, 2, 5, 4, 21, 6, 0, 49] Tryz.f284
noncomputable def G284 (E : Env) : ZFn := ⟨58, [1, 2, 5, 4, 21, 6, 0, 49], fun cy Y fuel =>
  (zSeq (zSeq (zReg fun k => (zL 2 true (.v 0)) ((zL 5 true (.v 1)) ((zCall (cy Y) 143 [(.l 1), (.l 0)] .push) k)))
  (zCond (.l 0) zRet zSkip))
  (zSeq (zReg fun k => (zV 3 (vMv (.k (.bool true)))) k)
  (zSeq (zSeq (zReg fun k => (zStep E (cy Y) ⟨.alloc 3, (.var 2), none, false, 0, (some 0)⟩) ((zStep E (cy Y) ⟨.store 3 (.v 2) (.k (.int .i64 0)), .none, none, false, 1, none⟩) k))
  (zBlock 0 (zLoop fuel (zSeq (zSeq (zReg fun k => (zL 1 false (.v 2)) ((zP (vFieldAddr 4 (.v 1))) ((zL 1 false (.l 0)) ((zP (vLenL (.l 0))) ((zP (vInt E fLss .lss 3 false false (.l 3) (.l 0))) ((zG (.l 0) true .push (zP (vMv (.v 3)))) ((zP (vPick (.l 1) (.l 0) (.k (.bool false)))) k)))))))
  (zCond (.l 0) zSkip (zExit 0)))
  (zSeq (zBlock 1 (zSeq (zReg fun k => (zP (vFieldAddr 0 (.v 0))) ((zDstW (.var 4) (wLoad 1 false (.l 0))) k))
  (zBlock 2 (zSeq (zReg fun k => (zP (vInt E fEql .eql 3 false true (.v 4) (.k (.int .i64 4)))) ((zP (vMv (.l 0))) k))
  (zCond (.l 0) (zSeq (zReg fun k => (zStep E (cy Y) ⟨.mkFunc 285 [(.v 1), (.v 2)], .push, none, false, 0, none⟩) ((zV 5 (vMv (.l 0))) k))
  (zDreg 1 fun n0 k => (zPD (vFieldAddr 1 (.v 0))) ((zLD B63 1 1 false (.l 0)) ((zPD (vIndexAddr 2 (.l 0) (.k (.int .i64 0)))) ((zLD B63 3 2 true (.l 0)) ((zPD (vFieldAddr 4 (.v 1))) ((zLD B63 5 1 false (.l 0)) ((zLD B63 6 1 false (.v 2)) ((zPD (vIndexAddr 5 (.l 1) (.l 0))) ((zLD B63 8 5 true (.l 0)) ((zCallD (cy Y) B63 11 286 [(.l 5), (.l 0), (.v 5), (.v 6)] .push) ((zVD 3 (vMv (.l 0))) k)))))))))))) (zSeq (zReg fun k => (zP (vInt E fEql .eql 3 false true (.v 4) (.k (.int .i64 5)))) ((zP (vMv (.l 0))) k))
  (zCond (.l 0) (zReg fun k => (zL 2 true (.v 0)) ((zL 5 true (.v 1)) ((zL 1 false (.v 2)) ((zCall (cy Y) 287 [(.l 2), (.l 1), (.l 0), (.v 6)] .push) ((zV 3 (vMv (.l 0))) k))))) (zReg fun k => (zL 2 true (.v 0)) ((zL 5 true (.v 1)) ((zL 1 false (.v 2)) ((zCall (cy Y) 288 [(.l 2), (.l 1), (.l 0), (.v 6)] .push) ((zV 3 (vMv (.l 0))) k))))))))))))
  (zSeq (zSeq (zReg fun k => (zDstW (.var 7) (wLoad 1 false (.v 2))) k)
  (zReg fun k => (zStep E (cy Y) ⟨.alloc 3, (.var 2), none, false, 0, (some 0)⟩) ((zStep E (cy Y) ⟨.store 3 (.v 2) (.v 7), .none, none, false, 1, none⟩) k)))
  (zReg fun k => (zL 1 false (.v 2)) ((zP (vInt E fAdd .add 3 false true (.l 0) (.k (.int .i64 1)))) ((zStep E (cy Y) ⟨.store 3 (.v 2) (.l 0), .none, none, false, 2, none⟩) k)))))))))
  (zSeq (zReg fun k => (zP (vFieldAddr 4 (.v 1))) ((zL 1 false (.l 0)) ((zP (vLenL (.l 0))) ((zP (vInt E fEql .eql 3 false true (.l 0) (.k (.int .i64 0)))) k))))
  (zCond (.l 0) (zReg fun k => (zL 2 true (.v 0)) ((zL 5 true (.v 1)) ((zCall (cy Y) 289 [(.l 1), (.l 0), (.v 6)] .push) k))) zSkip))))), []⟩
theorem G284_ok (fn : Nat → Option Func) (pu : Nat → Bool) (pr : Nat → List AV → Option (Heap → Option (Eff × Acc))) : ZOk ⟨Tryz.tyT, fn, pu, pr⟩ npT F284 (G284 ⟨Tryz.tyT, fn, pu, pr⟩) := ⟨by kernel_rfl, by kernel_rfl, by kernel_rfl, fun cy Y k => by kernel_rfl⟩
noncomputable def F289 : FFn := cF LV 0 [0, 1, 3, 14, 4, 20, 19, 18, 2, 8, 36, 35, 34, 10, 42, 41, 40, 12, 6] Tryz.f289
noncomputable def G289 (E : Env) : ZFn := ⟨58, [0, 1, 3, 14, 4, 20, 19, 18, 2, 8, 36, 35, 34, 10, 42, 41, 40, 12, 6], fun cy Y fuel =>
  (zSeq (zReg fun k => (zStep E (cy Y) ⟨.box 81 (.v 0), (.var 2), none, false, 0, (some 0)⟩) ((zStep E (cy Y) ⟨.box 38 (.v 1), (.var 4), none, false, 1, (some 1)⟩) ((zV 18 (vMv (.k (.bool false)))) k)))
  (zSeq (zSeq (zReg fun k => (zP (vFieldAddr 0 (.v 2))) ((zDstW (.var 3) (wLoad 1 false (.l 0))) k))
  (zBlock 0 (zSeq (zReg fun k => (zP (vInt E fEql .eql 3 false true (.v 3) (.k (.int .i64 3)))) ((zP (vMv (.l 0))) k))
  (zCond (.l 0) (zSeq (zSeq (zReg fun k => (zP (vFieldAddr 2 (.v 4))) ((zDstW (.var 7) (wLoad 1 false (.l 0))) ((zV 6 (vLenL (.v 7))) ((zV 5 (vMv (.k (.int .i64 0)))) k))))
  (zBlock 1 (zLoop fuel (zSeq (zReg fun k => (zP (vInt E fLss .lss 3 false false (.v 5) (.v 6))) k)
  (zSeq (zCond (.l 0) zSkip (zExit 1))
  (zSeq (zBlock 2 (zSeq (zReg fun k => (zP (vIndexAddr 1 (.v 7) (.v 5))) ((zL 1 false (.l 0)) ((zV 9 (vMv (.l 0))) k)))
  (zSeq (zReg fun k => (zStep E (cy Y) ⟨.buildSlice 34 1 [(0, (.v 9))], .push, none, false, 2, (some 0)⟩) ((zStep E (cy Y) ⟨.build 38 [(2, (.l 0))], .push, none, false, 3, none⟩) ((zStep E (cy Y) ⟨.callv (.v 8) [(.l 0)], .push, none, false, 4, (some 1)⟩) ((zP (vNot (.l 0))) k))))
  (zCond (.l 0) (zSeq (zReg fun k => (zV 18 (vMv (.k (.bool false)))) k)
  zRet) zSkip))))
  (zReg fun k => (zP (vInt E fAdd .add 3 false true (.v 5) (.k (.int .i64 1)))) ((zV 5 (vMv (.l 0))) k))))))))
  (zSeq (zReg fun k => (zV 18 (vMv (.k (.bool true)))) k)
  zRet)) (zSeq (zReg fun k => (zP (vInt E fEql .eql 3 false true (.v 3) (.k (.int .i64 7)))) ((zP (vMv (.l 0))) k))
  (zCond (.l 0) (zSeq (zSeq (zReg fun k => (zP (vFieldAddr 3 (.v 4))) ((zDstW (.var 12) (wLoad 1 false (.l 0))) ((zV 11 (vLenL (.v 12))) ((zV 10 (vMv (.k (.int .i64 0)))) k))))
  (zBlock 3 (zLoop fuel (zSeq (zReg fun k => (zP (vInt E fLss .lss 3 false false (.v 10) (.v 11))) k)
  (zSeq (zCond (.l 0) zSkip (zExit 3))
  (zSeq (zBlock 4 (zSeq (zReg fun k => (zP (vIndexAddr 1 (.v 12) (.v 10))) ((zL 1 false (.l 0)) ((zV 13 (vMv (.l 0))) k)))
  (zSeq (zReg fun k => (zV 16 (vMv (.v 13))) ((zV 15 (vLenL (.v 16))) ((zV 14 (vMv (.k (.int .i64 0)))) k)))
  (zBlock 5 (zLoop fuel (zSeq (zReg fun k => (zP (vInt E fLss .lss 3 false false (.v 14) (.v 15))) k)
  (zSeq (zCond (.l 0) zSkip (zExit 5))
  (zSeq (zBlock 6 (zSeq (zReg fun k => (zP (vIndexAddr 2 (.v 16) (.v 14))) ((zL 2 true (.l 0)) ((zStep E (cy Y) ⟨.alloc 314, (.var 17), none, false, 2, (some 0)⟩) ((zStep E (cy Y) ⟨.store 314 (.v 17) (.l 0), .none, none, false, 3, none⟩) k))))
  (zSeq (zReg fun k => (zL 2 true (.v 17)) ((zStep E (cy Y) ⟨.buildSlice 280 1 [(0, (.l 0))], .push, none, false, 2, (some 0)⟩) ((zStep E (cy Y) ⟨.buildSlice 35 1 [(0, (.l 0))], .push, none, false, 3, (some 1)⟩) ((zStep E (cy Y) ⟨.build 38 [(3, (.l 0))], .push, none, false, 4, none⟩) ((zStep E (cy Y) ⟨.callv (.v 8) [(.l 0)], .push, none, false, 5, (some 2)⟩) ((zP (vNot (.l 0))) k))))))
  (zCond (.l 0) (zSeq (zReg fun k => (zV 18 (vMv (.k (.bool false)))) k)
  zRet) zSkip))))
  (zReg fun k => (zP (vInt E fAdd .add 3 false true (.v 14) (.k (.int .i64 1)))) ((zV 14 (vMv (.l 0))) k))))))))))
  (zReg fun k => (zP (vInt E fAdd .add 3 false true (.v 10) (.k (.int .i64 1)))) ((zV 10 (vMv (.l 0))) k))))))))
  (zSeq (zReg fun k => (zV 18 (vMv (.k (.bool true)))) k)
  zRet)) zSkip))))))
  (zSeq (zReg fun k => (zL 5 true (.v 4)) ((zStep E (cy Y) ⟨.callv (.v 8) [(.l 0)], .push, none, false, 2, (some 0)⟩) ((zV 18 (vMv (.l 0))) k)))
  zRet))), [.tmp (.v 18)]⟩
theorem G289_ok (fn : Nat → Option Func) (pu : Nat → Bool) (pr : Nat → List AV → Option (Heap → Option (Eff × Acc))) : ZOk ⟨Tryz.tyT, fn, pu, pr⟩ npT F289 (G289 ⟨Tryz.tyT, fn, pu, pr⟩) := ⟨by kernel_rfl, by kernel_rfl, by kernel_rfl, fun cy Y k => by kernel_rfl⟩
noncomputable def F295 : FFn := cF LV 0 [0, 1, 2] Tryz.f295
noncomputable def G295 (E : Env) : ZFn := ⟨28, [0, 1, 2], fun cy Y fuel =>
  (zSeq (zReg fun k => (zStep E (cy Y) ⟨.box 38 (.v 0), (.var 1), none, false, 0, (some 0)⟩) ((zV 2 (vMv (.k (.bool false)))) k))
  (zSeq (zReg fun k => (zP (vFieldAddr 2 (.v 1))) ((zL 1 false (.l 0)) ((zP (vLenL (.l 0))) ((zP (vFieldAddr 3 (.v 1))) ((zL 1 false (.l 0)) ((zP (vLenL (.l 0))) ((zP (vFieldAddr 4 (.v 1))) ((zL 1 false (.l 0)) ((zP (vLenL (.l 0))) ((zStep E (cy Y) ⟨.most true [(.l 6), (.l 3), (.l 0)], .push, none, false, 9, none⟩) ((zP (vInt E fGtr .gtr 3 false true (.l 0) (.k (.int .i64 40)))) ((zG (.l 0) false .push (zP (vFieldAddr 3 (.v 1)))) ((zG (.l 1) false .push (zL 1 false (.l 0))) ((zG (.l 2) false .push (zP (vLenL (.l 0)))) ((zG (.l 3) false .push (zP (vInt E fEql .eql 3 false true (.l 0) (.k (.int .i64 1))))) ((zG (.l 4) false .push (zP (vMv (.l 0)))) ((zG (.l 0) true .push (zP (vFieldAddr 3 (.v 1)))) ((zG (.l 1) true .push (zL 1 false (.l 0))) ((zG (.l 2) true .push (zP (vIndexAddr 1 (.l 0) (.k (.int .i64 0))))) ((zG (.l 3) true .push (zL 1 false (.l 0))) ((zG (.l 4) true .push (zP (vLenL (.l 0)))) ((zG (.l 5) true .push (zP (vInt E fGtr .gtr 3 false true (.l 0) (.k (.int .i64 40))))) ((zG (.l 11) false .push (zP (vPick (.l 6) (.l 0) (.k (.bool false))))) ((zP (vPick (.l 12) (.k (.bool true)) (.l 0))) ((zV 2 (vMv (.l 0))) k)))))))))))))))))))))))))
  zRet)), [.tmp (.v 2)]⟩
theorem G295_ok (fn : Nat → Option Func) (pu : Nat → Bool) (pr : Nat → List AV → Option (Heap → Option (Eff × Acc))) : ZOk ⟨Tryz.tyT, fn, pu, pr⟩ npT F295 (G295 ⟨Tryz.tyT, fn, pu, pr⟩) := ⟨by kernel_rfl, by kernel_rfl, by kernel_rfl, fun cy Y k => by kernel_rfl⟩
noncomputable def F300 : FFn := cF LV 0 [0, 3, 4, 10, 2] Tryz.f300
noncomputable def G300 (E : Env) : ZFn := ⟨15, [0, 3, 4, 10, 2], fun cy Y fuel =>
  (zSeq (zReg fun k => (zV 4 (vMv (.k (.int .i64 0)))) k)
  (zSeq (zSeq (zReg fun k => (zV 1 (vMv (.v 0))) k)
  (zBlock 0 (zSeq (zSeq (zReg fun k => (zP (vInt E fEql .eql 3 false true (.v 1) (.k (.int .i64 1)))) ((zV 2 (vMv (.l 0))) k))
  (zCond (.v 2) zSkip (zSeq (zReg fun k => (zP (vInt E fEql .eql 3 false true (.v 1) (.k (.int .i64 2)))) ((zV 2 (vMv (.l 0))) k))
  (zCond (.v 2) zSkip (zSeq (zReg fun k => (zP (vInt E fEql .eql 3 false true (.v 1) (.k (.int .i64 3)))) ((zV 2 (vMv (.l 0))) k))
  (zCond (.v 2) zSkip (zSeq (zReg fun k => (zP (vInt E fEql .eql 3 false true (.v 1) (.k (.int .i64 6)))) ((zV 2 (vMv (.l 0))) k))
  (zCond (.v 2) zSkip (zReg fun k => (zP (vInt E fEql .eql 3 false true (.v 1) (.k (.int .i64 7)))) ((zV 2 (vMv (.l 0))) k))))))))))
  (zCond (.v 2) (zSeq (zReg fun k => (zV 4 (vMv (.k (.int .i64 0)))) k)
  zRet) (zSeq (zSeq (zReg fun k => (zP (vInt E fEql .eql 3 false true (.v 1) (.k (.int .i64 4)))) ((zV 3 (vMv (.l 0))) k))
  (zCond (.v 3) zSkip (zReg fun k => (zP (vInt E fEql .eql 3 false true (.v 1) (.k (.int .i64 8)))) ((zV 3 (vMv (.l 0))) k))))
  (zCond (.v 3) (zSeq (zReg fun k => (zV 4 (vMv (.k (.int .i64 1)))) k)
  zRet) (zSeq (zReg fun k => (zP (vInt E fEql .eql 3 false true (.v 1) (.k (.int .i64 5)))) ((zP (vMv (.l 0))) k))
  (zCond (.l 0) (zSeq (zReg fun k => (zV 4 (vMv (.k (.int .i64 2)))) k)
  zRet) zSkip))))))))
  (zSeq (zReg fun k => (zV 4 (vMv (.k (.int .i64 (-1))))) k)
  zRet))), [.tmp (.v 4)]⟩
theorem G300_ok (fn : Nat → Option Func) (pu : Nat → Bool) (pr : Nat → List AV → Option (Heap → Option (Eff × Acc))) : ZOk ⟨Tryz.tyT, fn, pu, pr⟩ npT F300 (G300 ⟨Tryz.tyT, fn, pu, pr⟩) := ⟨by kernel_rfl, by kernel_rfl, by kernel_rfl, fun cy Y k => by kernel_rfl⟩
noncomputable def F301 : FFn := cF LV 0 [0, 9, 8, 7, 1, 6, 4] Tryz.f301
noncomputable def G301 (E : Env) : ZFn := ⟨18, [0, 9, 8, 7, 1, 6, 4], fun cy Y fuel =>
  (zSeq (zReg fun k => (zV 6 (vMv (.k (.bool false)))) k)
  (zSeq (zSeq (zReg fun k => (zV 3 (vMv (.v 0))) ((zV 2 (vLenL (.v 3))) ((zV 1 (vMv (.k (.int .i64 0)))) k)))
  (zBlock 0 (zLoop fuel (zSeq (zReg fun k => (zP (vInt E fLss .lss 3 false false (.v 1) (.v 2))) k)
  (zSeq (zCond (.l 0) zSkip (zExit 0))
  (zSeq (zBlock 1 (zSeq (zReg fun k => (zP (vIndexAddr 2 (.v 3) (.v 1))) ((zL 2 true (.l 0)) ((zStep E (cy Y) ⟨.alloc 81, (.var 5), none, false, 2, (some 0)⟩) ((zStep E (cy Y) ⟨.store 81 (.v 5) (.l 0), .none, none, false, 3, none⟩) k))))
  (zSeq (zReg fun k => (zL 2 true (.v 5)) ((zStep E (cy Y) ⟨.callv (.v 4) [(.l 0)], .push, none, false, 2, (some 0)⟩) ((zP (vNot (.l 0))) k)))
  (zCond (.l 0) (zSeq (zReg fun k => (zV 6 (vMv (.k (.bool false)))) k)
  zRet) zSkip))))
  (zReg fun k => (zP (vInt E fAdd .add 3 false true (.v 1) (.k (.int .i64 1)))) ((zV 1 (vMv (.l 0))) k))))))))
  (zSeq (zReg fun k => (zV 6 (vMv (.k (.bool true)))) k)
  zRet))), [.tmp (.v 6)]⟩
theorem G301_ok (fn : Nat → Option Func) (pu : Nat → Bool) (pr : Nat → List AV → Option (Heap → Option (Eff × Acc))) : ZOk ⟨Tryz.tyT, fn, pu, pr⟩ npT F301 (G301 ⟨Tryz.tyT, fn, pu, pr⟩) := ⟨by kernel_rfl, by kernel_rfl, by kernel_rfl, fun cy Y k => by kernel_rfl⟩
noncomputable def F302 : FFn := cF LV 0 [0, 2, 1, 3] Tryz.f302
noncomputable def G302 (E : Env) : ZFn := ⟨8, [0, 2, 1, 3], fun cy Y fuel =>
  (zSeq (zReg fun k => (zStep E (cy Y) ⟨.box 81 (.v 0), (.var 1), none, false, 0, (some 0)⟩) ((zV 3 (vMv (.k (.bool false)))) k))
  (zSeq (zReg fun k => (zL 2 true (.v 1)) ((zL 1 false (.v 2)) ((zP (vInt E fSub .sub 3 false true (.l 0) (.k (.int .i64 1)))) ((zCall (cy Y) 223 [(.l 2), (.l 0)] .push) ((zV 3 (vMv (.l 0))) k)))))
  zRet)), [.tmp (.v 3)]⟩
theorem G302_ok (fn : Nat → Option Func) (pu : Nat → Bool) (pr : Nat → List AV → Option (Heap → Option (Eff × Acc))) : ZOk ⟨Tryz.tyT, fn, pu, pr⟩ npT F302 (G302 ⟨Tryz.tyT, fn, pu, pr⟩) := ⟨by kernel_rfl, by kernel_rfl, by kernel_rfl, fun cy Y k => by kernel_rfl⟩
noncomputable def F306 : FFn := cF LV 0 [0, 1, 2] Tryz.f306
noncomputable def G306 (E : Env) : ZFn := ⟨4, [0, 1, 2], fun cy Y fuel =>
  (zSeq (zReg fun k => (zStep E (cy Y) ⟨.box 128 (.v 0), (.var 1), none, false, 0, (some 0)⟩) ((zV 2 (vMv (.k .nilFunc))) k))
  (zSeq (zReg fun k => (zStep E (cy Y) ⟨.mkFunc 373 [(.v 1)], .push, none, false, 0, none⟩) ((zV 2 (vMv (.l 0))) k))
  zRet)), [.tmp (.v 2)]⟩
theorem G306_ok (fn : Nat → Option Func) (pu : Nat → Bool) (pr : Nat → List AV → Option (Heap → Option (Eff × Acc))) : ZOk ⟨Tryz.tyT, fn, pu, pr⟩ npT F306 (G306 ⟨Tryz.tyT, fn, pu, pr⟩) := ⟨by kernel_rfl, by kernel_rfl, by kernel_rfl, fun cy Y k => by kernel_rfl⟩
noncomputable def F307 : FFn := cF LV 0 [1, 0, 11, 10, 9, 15, 5, 7, 8, 3, 4] Tryz.f307
noncomputable def G307 (E : Env) : ZFn := ⟨32, [1, 0, 11, 10, 9, 15, 5, 7, 8, 3, 4], fun cy Y fuel =>
  (zSeq (zReg fun k => (zStep E (cy Y) ⟨.box 33 (.v 0), (.var 9), none, false, 0, (some 0)⟩) ((zV 10 (vMv (.k .nilFunc))) k))
  (zSeq (zReg fun k => (zStep E (cy Y) ⟨.alloc 436, (.var 6), none, false, 0, (some 0)⟩) k)
  (zSeq (zSeq (zReg fun k => (zV 4 (vMv (.v 1))) ((zV 3 (vLenL (.v 4))) ((zV 2 (vMv (.k (.int .i64 0)))) k)))
  (zBlock 0 (zLoop fuel (zSeq (zReg fun k => (zP (vInt E fLss .lss 3 false false (.v 2) (.v 3))) k)
  (zSeq (zCond (.l 0) zSkip (zExit 0))
  (zSeq (zBlock 1 (zSeq (zReg fun k => (zP (vIndexAddr 1 (.v 4) (.v 2))) ((zL 1 false (.l 0)) ((zV 7 (vMv (.l 0))) k)))
  (zSeq (zReg fun k => (zV 5 (vMv (.k (.int .i64 0)))) k)
  (zBlock 2 (zLoop fuel (zSeq (zReg fun k => (zP (vInt E fLss .lss 3 false true (.v 5) (.k (.int .i64 4)))) k)
  (zSeq (zCond (.l 0) zSkip (zExit 2))
  (zSeq (zBlock 3 (zSeq (zReg fun k => (zV 8 (vMv (.v 5))) k)
  (zDreg 3 fun n0 k => (zLD B64 0 1 false (.v 6)) ((zCallD (cy Y) B64 3 374 [(.v 7), (.v 8)] .push) ((zStepD E (cy Y) B64 n0 ⟨.build 438 [(0, (.l 0)), (1, (.v 7))], .push, none, false, 5, none⟩) ((zStepD E (cy Y) B64 n0 ⟨.buildSlice 436 1 [(0, (.l 0))], .push, none, false, 6, (some 1)⟩) ((zStepD E (cy Y) B64 n0 ⟨.append 436 436 (.l 3) (.l 0), .push, none, false, 7, (some 2)⟩) ((zStepD E (cy Y) B64 n0 ⟨.store 436 (.v 6) (.l 0), .none, none, false, 8, none⟩) k))))))))
  (zReg fun k => (zP (vInt E fAdd .add 3 false true (.v 5) (.k (.int .i64 1)))) ((zV 5 (vMv (.l 0))) k))))))))))
  (zReg fun k => (zP (vInt E fAdd .add 3 false true (.v 2) (.k (.int .i64 1)))) ((zV 2 (vMv (.l 0))) k))))))))
  (zSeq (zReg fun k => (zL 1 false (.v 6)) ((zStep E (cy Y) ⟨.mkFunc 376 [(.v 9)], .push, none, false, 1, none⟩) ((zCall (cy Y) 375 [(.l 1), (.l 0)] .push) k)))
  (zSeq (zReg fun k => (zStep E (cy Y) ⟨.mkFunc 377 [(.v 6)], .push, none, false, 0, none⟩) ((zV 10 (vMv (.l 0))) k))
  zRet))))), [.tmp (.v 10)]⟩
theorem G307_ok (fn : Nat → Option Func) (pu : Nat → Bool) (pr : Nat → List AV → Option (Heap → Option (Eff × Acc))) : ZOk ⟨Tryz.tyT, fn, pu, pr⟩ npT F307 (G307 ⟨Tryz.tyT, fn, pu, pr⟩) := ⟨by kernel_rfl, by kernel_rfl, by kernel_rfl, fun cy Y k => by kernel_rfl⟩
noncomputable def F308 : FFn := cF LV 0 [0, 2] Tryz.f308
noncomputable def G308 (E : Env) : ZFn := ⟨7, [0, 2], fun cy Y fuel =>
  (zSeq (zReg fun k => (zV 1 (vMv (.k (.int .u64 0)))) k)
  (zSeq (zReg fun k => (zP (vInt E fAdd .add 9 true false (.k (.str [107, 101, 121])) (.v 0))) ((zCall (cy Y) 218 [(.l 0)] .push) ((zCall (cy Y) 378 [(.l 0)] .push) ((zV 1 (vMv (.l 0))) k))))
  zRet)), [.tmp (.v 1)]⟩
theorem G308_ok (fn : Nat → Option Func) (pu : Nat → Bool) (pr : Nat → List AV → Option (Heap → Option (Eff × Acc))) : ZOk ⟨Tryz.tyT, fn, pu, pr⟩ npT F308 (G308 ⟨Tryz.tyT, fn, pu, pr⟩) := ⟨by kernel_rfl, by kernel_rfl, by kernel_rfl, fun cy Y k => by kernel_rfl⟩
noncomputable def F309 : FFn := cF LV 0 [0, 6, 7, 8, 9, 1, 4, 5] Tryz.f309
noncomputable def G309 (E : Env) : ZFn := ⟨54, [0, 6, 7, 8, 9, 1, 4, 5], fun cy Y fuel =>
  (zSeq (zReg fun k => (zV 6 (vMv (.k (.int .i64 0)))) ((zV 7 (vMv (.k (.bool false)))) k))
  (zSeq (zReg fun k => (zP (vLenL (.v 0))) ((zV 1 (vMv (.l 0))) k))
  (zSeq (zReg fun k => (zV 2 (vMv (.k (.int .i64 0)))) ((zV 3 (vMv (.v 1))) k))
  (zSeq (zBlock 0 (zLoop fuel (zSeq (zSeq (zReg fun k => (zP (vInt E fLss .lss 3 false false (.v 2) (.v 3))) k)
  (zCond (.l 0) zSkip (zExit 0)))
  (zBlock 1 (zSeq (zReg fun k => (zP (vInt E fAdd .add 3 false false (.v 2) (.v 3))) ((zP (vConv .u64 (.l 0))) ((zP (vBin E .shr 302 false true (.l 0) (.k (.int .u64 1)))) ((zP (vConv .i64 (.l 0))) ((zV 4 (vMv (.l 0))) k)))))
  (zSeq (zReg fun k => (zP (vIndexAddr 1 (.v 0) (.v 4))) ((zL 1 false (.l 0)) ((zCall (cy Y) 324 [(.l 0), (.v 5)] .push) k)))
  (zCond (.l 0) (zReg fun k => (zP (vInt E fAdd .add 3 false true (.v 4) (.k (.int .i64 1)))) ((zV 2 (vMv (.l 0))) k)) (zReg fun k => (zV 3 (vMv (.v 4))) k))))))))
  (zSeq (zReg fun k => (zP (vInt E fLss .lss 3 false false (.v 2) (.v 1))) ((zG (.l 0) true .push (zP (vMv (.v 0)))) ((zG (.l 1) true .push (zP (vMv (.v 2)))) ((zG (.l 2) true .push (zP (vIndexAddr 1 (.l 1) (.l 0)))) ((zG (.l 3) true .push (zL 1 false (.l 0))) ((zG (.l 4) true .push (zP (vMv (.v 5)))) ((zG (.l 5) true .push (zP (vInt E fEql .eql 9 false false (.l 1) (.l 0)))) ((zG (.l 6) true .push (zP (vMv (.l 0)))) ((zG (.l 0) false .push (zP (vMv (.v 0)))) ((zG (.l 1) false .push (zP (vMv (.v 2)))) ((zG (.l 2) false .push (zP (vIndexAddr 1 (.l 1) (.l 0)))) ((zG (.l 3) false .push (zL 1 false (.l 0))) ((zG (.l 4) false .push (zCall (cy Y) 379 [(.l 0)] .push)) ((zG (.l 5) false .push (zP (vMv (.l 0)))) ((zG (.l 0) true .push (zP (vMv (.v 5)))) ((zG (.l 1) true .push (zCall (cy Y) 379 [(.l 0)] .push)) ((zG (.l 8) false .push (zP (vPick (.l 2) (.l 0) (.k (.bool false))))) ((zG (.l 16) true .push (zP (vPick (.l 9) (.k (.bool true)) (.l 0)))) ((zP (vPick (.l 17) (.l 0) (.k (.bool false)))) ((zV 6 (vMv (.v 2))) ((zV 7 (vMv (.l 0))) k)))))))))))))))))))))
  zRet))))), [.tmp (.v 6), .tmp (.v 7)]⟩
theorem G309_ok (fn : Nat → Option Func) (pu : Nat → Bool) (pr : Nat → List AV → Option (Heap → Option (Eff × Acc))) : ZOk ⟨Tryz.tyT, fn, pu, pr⟩ npT F309 (G309 ⟨Tryz.tyT, fn, pu, pr⟩) := ⟨by kernel_rfl, by kernel_rfl, by kernel_rfl, fun cy Y k => by kernel_rfl⟩
noncomputable def F324 : FFn := cF LV 0 [0, 1, 4] Tryz.f324
noncomputable def G324 (E : Env) : ZFn := ⟨17, [0, 1, 4], fun cy Y fuel =>
  (zSeq (zReg fun k => (zV 2 (vMv (.k (.bool false)))) k)
  (zSeq (zReg fun k => (zCall (cy Y) 388 [(.v 0)] .push) ((zG (.l 0) true .push (zP (vMv (.v 1)))) ((zG (.l 1) true .push (zCall (cy Y) 388 [(.l 0)] .push)) ((zG (.l 2) true .push (zP (vNot (.l 0)))) ((zP (vPick (.l 3) (.l 0) (.k (.bool false)))) ((zG (.l 0) false .push (zP (vMv (.v 0)))) ((zG (.l 1) false .push (zP (vMv (.v 1)))) ((zG (.l 2) false .push (zP (vInt E fLss .lss 9 false false (.l 1) (.l 0)))) ((zP (vPick (.l 3) (.k (.bool true)) (.l 0))) ((zV 2 (vMv (.l 0))) k))))))))))
  zRet)), [.tmp (.v 2)]⟩
theorem G324_ok (fn : Nat → Option Func) (pu : Nat → Bool) (pr : Nat → List AV → Option (Heap → Option (Eff × Acc))) : ZOk ⟨Tryz.tyT, fn, pu, pr⟩ npT F324 (G324 ⟨Tryz.tyT, fn, pu, pr⟩) := ⟨by kernel_rfl, by kernel_rfl, by kernel_rfl, fun cy Y k => by kernel_rfl⟩
noncomputable def F328 : FFn := cF LV 0 [0, 2] Tryz.f328
noncomputable def G328 (E : Env) : ZFn := ⟨25, [0, 2], fun cy Y fuel =>
  (zSeq (zReg fun k => (zV 1 (vMv (.k (.int .i64 0)))) k)
  (zSeq (zSeq (zReg fun k => (zP (vInt E (fGen .geq) .geq 33 false true (.v 0) (.k (.int .u64 4294967296)))) k)
  (zCond (.l 0) (zSeq (zReg fun k => (zP (vMv (.v 0))) ((zP (vBin E .shr 33 false true (.l 0) (.k (.int .u64 32)))) ((zV 0 (vMv (.l 0))) k)))
  (zReg fun k => (zV 1 (vMv (.k (.int .i64 32)))) k)) zSkip))
  (zSeq (zSeq (zReg fun k => (zP (vInt E (fGen .geq) .geq 33 false true (.v 0) (.k (.int .u64 65536)))) k)
  (zCond (.l 0) (zSeq (zReg fun k => (zP (vMv (.v 0))) ((zP (vBin E .shr 33 false true (.l 0) (.k (.int .u64 16)))) ((zV 0 (vMv (.l 0))) k)))
  (zReg fun k => (zP (vMv (.v 1))) ((zP (vInt E fAdd .add 3 false true (.l 0) (.k (.int .i64 16)))) ((zV 1 (vMv (.l 0))) k)))) zSkip))
  (zSeq (zSeq (zReg fun k => (zP (vInt E (fGen .geq) .geq 33 false true (.v 0) (.k (.int .u64 256)))) k)
  (zCond (.l 0) (zSeq (zReg fun k => (zP (vMv (.v 0))) ((zP (vBin E .shr 33 false true (.l 0) (.k (.int .u64 8)))) ((zV 0 (vMv (.l 0))) k)))
  (zReg fun k => (zP (vMv (.v 1))) ((zP (vInt E fAdd .add 3 false true (.l 0) (.k (.int .i64 8)))) ((zV 1 (vMv (.l 0))) k)))) zSkip))
  (zSeq (zReg fun k => (zP (vMv (.v 1))) ((zP (vConv .u8 (.v 0))) ((zStep E (cy Y) ⟨.index 9 (.k (.str [0, 1, 2, 2, 3, 3, 3, 3, 4, 4, 4, 4, 4, 4, 4, 4, 5, 5, 5, 5, 5, 5, 5, 5, 5, 5, 5, 5, 5, 5, 5, 5, 6, 6, 6, 6, 6, 6, 6, 6, 6, 6, 6, 6, 6, 6, 6, 6, 6, 6, 6, 6, 6, 6, 6, 6, 6, 6, 6, 6, 6, 6, 6, 6, 7, 7, 7, 7, 7, 7, 7, 7, 7, 7, 7, 7, 7, 7, 7, 7, 7, 7, 7, 7, 7, 7, 7, 7, 7, 7, 7, 7, 7, 7, 7, 7, 7, 7, 7, 7, 7, 7, 7, 7, 7, 7, 7, 7, 7, 7, 7, 7, 7, 7, 7, 7, 7, 7, 7, 7, 7, 7, 7, 7, 7, 7, 7, 7, 8, 8, 8, 8, 8, 8, 8, 8, 8, 8, 8, 8, 8, 8, 8, 8, 8, 8, 8, 8, 8, 8, 8, 8, 8, 8, 8, 8, 8, 8, 8, 8, 8, 8, 8, 8, 8, 8, 8, 8, 8, 8, 8, 8, 8, 8, 8, 8, 8, 8, 8, 8, 8, 8, 8, 8, 8, 8, 8, 8, 8, 8, 8, 8, 8, 8, 8, 8, 8, 8, 8, 8, 8, 8, 8, 8, 8, 8, 8, 8, 8, 8, 8, 8, 8, 8, 8, 8, 8, 8, 8, 8, 8, 8, 8, 8, 8, 8, 8, 8, 8, 8, 8, 8, 8, 8, 8, 8, 8, 8, 8, 8, 8, 8, 8, 8, 8, 8, 8, 8, 8, 8, 8, 8, 8, 8, 8, 8])) (.l 0), .push, none, false, 3, none⟩) ((zP (vConv .i64 (.l 0))) ((zP (vInt E fAdd .add 3 false false (.l 3) (.l 0))) ((zV 1 (vMv (.l 0))) k))))))
  zRet))))), [.tmp (.v 1)]⟩
theorem G328_ok (fn : Nat → Option Func) (pu : Nat → Bool) (pr : Nat → List AV → Option (Heap → Option (Eff × Acc))) : ZOk ⟨Tryz.tyT, fn, pu, pr⟩ npT F328 (G328 ⟨Tryz.tyT, fn, pu, pr⟩) := ⟨by kernel_rfl, by kernel_rfl, by kernel_rfl, fun cy Y k => by kernel_rfl⟩
noncomputable def F334 : FFn := cF LV 0 [0, 6, 7, 8, 9, 1, 4, 5] Tryz.f334
noncomputable def G334 (E : Env) : ZFn := ⟨54, [0, 6, 7, 8, 9, 1, 4, 5], fun cy Y fuel =>
  (zSeq (zReg fun k => (zV 6 (vMv (.k (.int .i64 0)))) ((zV 7 (vMv (.k (.bool false)))) k))
  (zSeq (zReg fun k => (zP (vLenL (.v 0))) ((zV 1 (vMv (.l 0))) k))
  (zSeq (zReg fun k => (zV 2 (vMv (.k (.int .i64 0)))) ((zV 3 (vMv (.v 1))) k))
  (zSeq (zBlock 0 (zLoop fuel (zSeq (zSeq (zReg fun k => (zP (vInt E fLss .lss 3 false false (.v 2) (.v 3))) k)
  (zCond (.l 0) zSkip (zExit 0)))
  (zBlock 1 (zSeq (zReg fun k => (zP (vInt E fAdd .add 3 false false (.v 2) (.v 3))) ((zP (vConv .u64 (.l 0))) ((zP (vBin E .shr 302 false true (.l 0) (.k (.int .u64 1)))) ((zP (vConv .i64 (.l 0))) ((zV 4 (vMv (.l 0))) k)))))
  (zSeq (zReg fun k => (zP (vIndexAddr 1 (.v 0) (.v 4))) ((zL 1 false (.l 0)) ((zCall (cy Y) 324 [(.l 0), (.v 5)] .push) k)))
  (zCond (.l 0) (zReg fun k => (zP (vInt E fAdd .add 3 false true (.v 4) (.k (.int .i64 1)))) ((zV 2 (vMv (.l 0))) k)) (zReg fun k => (zV 3 (vMv (.v 4))) k))))))))
  (zSeq (zReg fun k => (zP (vInt E fLss .lss 3 false false (.v 2) (.v 1))) ((zG (.l 0) true .push (zP (vMv (.v 0)))) ((zG (.l 1) true .push (zP (vMv (.v 2)))) ((zG (.l 2) true .push (zP (vIndexAddr 1 (.l 1) (.l 0)))) ((zG (.l 3) true .push (zL 1 false (.l 0))) ((zG (.l 4) true .push (zP (vMv (.v 5)))) ((zG (.l 5) true .push (zP (vInt E fEql .eql 9 false false (.l 1) (.l 0)))) ((zG (.l 6) true .push (zP (vMv (.l 0)))) ((zG (.l 0) false .push (zP (vMv (.v 0)))) ((zG (.l 1) false .push (zP (vMv (.v 2)))) ((zG (.l 2) false .push (zP (vIndexAddr 1 (.l 1) (.l 0)))) ((zG (.l 3) false .push (zL 1 false (.l 0))) ((zG (.l 4) false .push (zCall (cy Y) 379 [(.l 0)] .push)) ((zG (.l 5) false .push (zP (vMv (.l 0)))) ((zG (.l 0) true .push (zP (vMv (.v 5)))) ((zG (.l 1) true .push (zCall (cy Y) 379 [(.l 0)] .push)) ((zG (.l 8) false .push (zP (vPick (.l 2) (.l 0) (.k (.bool false))))) ((zG (.l 16) true .push (zP (vPick (.l 9) (.k (.bool true)) (.l 0)))) ((zP (vPick (.l 17) (.l 0) (.k (.bool false)))) ((zV 6 (vMv (.v 2))) ((zV 7 (vMv (.l 0))) k)))))))))))))))))))))
  zRet))))), [.tmp (.v 6), .tmp (.v 7)]⟩
theorem G334_ok (fn : Nat → Option Func) (pu : Nat → Bool) (pr : Nat → List AV → Option (Heap → Option (Eff × Acc))) : ZOk ⟨Tryz.tyT, fn, pu, pr⟩ npT F334 (G334 ⟨Tryz.tyT, fn, pu, pr⟩) := ⟨by kernel_rfl, by kernel_rfl, by kernel_rfl, fun cy Y k => by kernel_rfl⟩
noncomputable def F335 : FFn := cF LV 0 [4, 1, 5, 2, 0, 6] Tryz.f335
noncomputable def G335 (E : Env) : ZFn := ⟨79, [4, 1, 5, 2, 0, 6], fun cy Y fuel =>
  (zSeq (zReg fun k => (zV 0 (vMv (.k (.int .i64 0)))) ((zV 2 (vMv (.k (.int .i64 0)))) k))
  (zBlock 0 (zLoop fuel (zSeq (zSeq (zReg fun k => (zL 1 false (.v 1)) ((zP (vLenL (.l 0))) ((zP (vInt E fLss .lss 3 false false (.v 0) (.l 0))) ((zG (.l 0) false .push (zP (vMv (.v 2)))) ((zG (.l 1) false .push (zL 1 false (.v 3))) ((zG (.l 2) false .push (zP (vLenL (.l 0)))) ((zG (.l 3) false .push (zP (vInt E fLss .lss 3 false false (.l 2) (.l 0)))) ((zP (vPick (.l 4) (.k (.bool true)) (.l 0))) k))))))))
  (zCond (.l 0) zSkip (zExit 0)))
  (zBlock 1 (zSeq (zReg fun k => (zV 5 (vMv (.k (.str [])))) k)
  (zSeq (zBlock 2 (zSeq (zDreg 0 fun n0 k => (zLD B65 1 1 false (.v 3)) ((zPD (vLenL (.l 0))) ((zPD (vInt E fEql .eql 3 false false (.v 2) (.l 0))) ((zGD (.l 0) false .push (zPD (vMv (.v 0)))) ((zGD (.l 1) false .push (zLD B65 6 1 false (.v 1))) ((zGD (.l 2) false .push (zPD (vLenL (.l 0)))) ((zGD (.l 3) false .push (zPD (vInt E fLss .lss 3 false false (.l 2) (.l 0)))) ((zGD (.l 4) false .push (zPD (vMv (.l 0)))) ((zGD (.l 0) true .push (zLD B65 10 1 false (.v 1))) ((zGD (.l 1) true .push (zPD (vMv (.v 0)))) ((zGD (.l 2) true .push (zPD (vIndexAddr 1 (.l 1) (.l 0)))) ((zGD (.l 3) true .push (zLD B65 13 1 false (.l 0))) ((zGD (.l 4) true .push (zLD B65 14 1 false (.v 3))) ((zGD (.l 5) true .push (zPD (vMv (.v 2)))) ((zGD (.l 6) true .push (zPD (vIndexAddr 1 (.l 1) (.l 0)))) ((zGD (.l 7) true .push (zLD B65 17 1 false (.l 0))) ((zGD (.l 8) true .push (zPD (vInt E fLss .lss 9 false false (.l 4) (.l 0)))) ((zGD (.l 14) false .push (zPD (vPick (.l 9) (.l 0) (.k (.bool false))))) ((zPD (vPick (.l 15) (.k (.bool true)) (.l 0))) ((zPD (vMv (.l 0))) k))))))))))))))))))))
  (zCond (.l 0) (zSeq (zReg fun k => (zL 1 false (.v 1)) ((zP (vIndexAddr 1 (.l 0) (.v 0))) ((zL 1 false (.l 0)) ((zV 5 (vMv (.l 0))) k))))
  (zReg fun k => (zP (vMv (.v 0))) ((zP (vInt E fAdd .add 3 false true (.l 0) (.k (.int .i64 1)))) ((zV 0 (vMv (.l 0))) k)))) (zSeq (zDreg 0 fun n0 k => (zLD B66 1 1 false (.v 1)) ((zPD (vLenL (.l 0))) ((zPD (vInt E fEql .eql 3 false false (.v 0) (.l 0))) ((zGD (.l 0) false .push (zLD B66 5 1 false (.v 3))) ((zGD (.l 1) false .push (zPD (vMv (.v 2)))) ((zGD (.l 2) false .push (zPD (vIndexAddr 1 (.l 1) (.l 0)))) ((zGD (.l 3) false .push (zLD B66 8 1 false (.l 0))) ((zGD (.l 4) false .push (zLD B66 9 1 false (.v 1))) ((zGD (.l 5) false .push (zPD (vMv (.v 0)))) ((zGD (.l 6) false .push (zPD (vIndexAddr 1 (.l 1) (.l 0)))) ((zGD (.l 7) false .push (zLD B66 12 1 false (.l 0))) ((zGD (.l 8) false .push (zPD (vInt E fLss .lss 9 false false (.l 4) (.l 0)))) ((zPD (vPick (.l 9) (.k (.bool true)) (.l 0))) ((zPD (vMv (.l 0))) k))))))))))))))
  (zCond (.l 0) (zSeq (zReg fun k => (zL 1 false (.v 3)) ((zP (vIndexAddr 1 (.l 0) (.v 2))) ((zL 1 false (.l 0)) ((zV 5 (vMv (.l 0))) k))))
  (zReg fun k => (zP (vMv (.v 2))) ((zP (vInt E fAdd .add 3 false true (.l 0) (.k (.int .i64 1)))) ((zV 2 (vMv (.l 0))) k)))) (zSeq (zReg fun k => (zL 1 false (.v 1)) ((zP (vIndexAddr 1 (.l 0) (.v 0))) ((zL 1 false (.l 0)) ((zV 5 (vMv (.l 0))) k))))
  (zReg fun k => (zP (vMv (.v 0))) ((zP (vInt E fAdd .add 3 false true (.l 0) (.k (.int .i64 1)))) ((zP (vMv (.v 2))) ((zP (vInt E fAdd .add 3 false true (.l 0) (.k (.int .i64 1)))) ((zV 0 (vMv (.l 2))) ((zV 2 (vMv (.l 0))) k))))))))))))
  (zSeq (zReg fun k => (zStep E (cy Y) ⟨.callv (.v 4) [(.v 5)], .push, none, false, 2, (some 0)⟩) ((zP (vNot (.l 0))) k))
  (zCond (.l 0) zRet zSkip))))))))), []⟩
theorem G335_ok (fn : Nat → Option Func) (pu : Nat → Bool) (pr : Nat → List AV → Option (Heap → Option (Eff × Acc))) : ZOk ⟨Tryz.tyT, fn, pu, pr⟩ npT F335 (G335 ⟨Tryz.tyT, fn, pu, pr⟩) := ⟨by kernel_rfl, by kernel_rfl, by kernel_rfl, fun cy Y k => by kernel_rfl⟩
noncomputable def F339 : FFn := cF LV 0 [0, 4, 6, 5, 3, 2] Tryz.f339
noncomputable def G339 (E : Env) : ZFn := ⟨74, [0, 4, 6, 5, 3, 2], fun cy Y fuel =>
  (zSeq (zReg fun k => (zV 5 (vMv (.k (.int .u64 0)))) k)
  (zSeq (zReg fun k => (zV 4 (vMv (.k (.int .u64 0)))) k)
  (zSeq (zSeq (zReg fun k => (zV 1 (vMv (.k (.int .i64 0)))) k)
  (zBlock 0 (zLoop fuel (zSeq (zSeq (zReg fun k => (zP (vNilCheck (.v 0))) ((zP (vFieldAddr 1 (.l 0))) ((zL 1 false (.l 0)) ((zP (vInt E fEql .eql 55 false true (.l 0) (.k .nilIface))) k))))
  (zCond (.l 0) zSkip (zExit 0)))
  (zSeq (zBlock 1 (zSeq (zSeq (zReg fun k => (zP (vNilCheck (.v 0))) ((zP (vFieldAddr 0 (.l 0))) ((zL 1 false (.l 0)) ((zP (vLenS (.l 0))) ((zP (vInt E (fGen .geq) .geq 3 false false (.v 1) (.l 0))) k)))))
  (zCond (.l 0) (zSeq (zReg fun k => (zCall (cy Y) 258 [(.v 0), (.k (.int .i64 11))] .push) k)
  (zExit 0)) zSkip))
  (zSeq (zReg fun k => (zP (vNilCheck (.v 0))) ((zP (vFieldAddr 0 (.l 0))) ((zL 1 false (.l 0)) ((zStep E (cy Y) ⟨.index 9 (.l 0) (.v 1), .push, none, false, 5, none⟩) ((zP (vConv .u64 (.l 0))) ((zV 3 (vMv (.l 0))) k))))))
  (zSeq (zReg fun k => (zP (vInt E (fGen .mul) .mul 3 true false (.k (.int .i64 7)) (.v 1))) ((zV 2 (vMv (.l 0))) k))
  (zSeq (zSeq (zReg fun k => (zP (vInt E (fGen .geq) .geq 3 false true (.v 2) (.k (.int .i64 64)))) ((zG (.l 0) false .push (zP (vMv (.v 3)))) ((zG (.l 1) false .push (zP (vInt E (fGen .rem) .rem 33 false true (.l 0) (.k (.int .u64 128))))) ((zG (.l 2) false .push (zP (vMv (.v 2)))) ((zG (.l 3) false .push (zP (vBin E .shl 33 false false (.l 1) (.l 0)))) ((zG (.l 4) false .push (zP (vMv (.v 2)))) ((zG (.l 5) false .push (zP (vBin E .shr 33 false false (.l 1) (.l 0)))) ((zG (.l 6) false .push (zP (vMv (.v 3)))) ((zG (.l 7) false .push (zP (vInt E (fGen .rem) .rem 33 false true (.l 0) (.k (.int .u64 128))))) ((zG (.l 8) false .push (zP (vInt E fNeq .neq 33 false false (.l 2) (.l 0)))) ((zP (vPick (.l 9) (.k (.bool true)) (.l 0))) ((zG (.l 0) false .push (zP (vMv (.v 1)))) ((zG (.l 1) false .push (zP (vInt E fGtr .gtr 3 false true (.l 0) (.k (.int .i64 0))))) ((zG (.l 2) false .push (zP (vMv (.l 0)))) ((zG (.l 0) true .push (zP (vMv (.v 3)))) ((zG (.l 1) true .push (zP (vInt E fEql .eql 33 false true (.l 0) (.k (.int .u64 0))))) ((zG (.l 5) false .push (zP (vPick (.l 2) (.l 0) (.k (.bool false))))) ((zP (vPick (.l 6) (.k (.bool true)) (.l 0))) k))))))))))))))))))
  (zCond (.l 0) (zSeq (zReg fun k => (zCall (cy Y) 258 [(.v 0), (.k (.int .i64 10))] .push) k)
  (zExit 0)) zSkip))
  (zSeq (zReg fun k => (zP (vMv (.v 4))) ((zP (vInt E (fGen .rem) .rem 33 false true (.v 3) (.k (.int .u64 128)))) ((zP (vBin E .shl 33 false false (.l 0) (.v 2))) ((zP (vInt E (fGen .or) .or 33 false false (.l 2) (.l 0))) ((zV 4 (vMv (.l 0))) k)))))
  (zSeq (zReg fun k => (zP (vInt E fLss .lss 33 false true (.v 3) (.k (.int .u64 128)))) k)
  (zCond (.l 0) (zSeq (zReg fun k => (zP (vNilCheck (.v 0))) ((zP (vFieldAddr 0 (.l 0))) ((zL 1 false (.l 0)) ((zP (vInt E fAdd .add 3 false true (.v 1) (.k (.int .i64 1)))) ((zStep E (cy Y) ⟨.slice 9 (.l 1) (some (.l 0)) none none, .push, none, false, 7, none⟩) ((zP (vNilCheck (.v 0))) ((zP (vFieldAddr 0 (.l 0))) ((zStep E (cy Y) ⟨.store 9 (.l 0) (.l 2), .none, none, false, 10, none⟩) k))))))))
  (zSeq (zReg fun k => (zV 5 (vMv (.v 4))) k)
  zRet)) zSkip))))))))
  (zReg fun k => (zP (vMv (.v 1))) ((zP (vInt E fAdd .add 3 false true (.l 0) (.k (.int .i64 1)))) ((zV 1 (vMv (.l 0))) k))))))))
  (zSeq (zReg fun k => (zV 5 (vMv (.k (.int .u64 0)))) k)
  zRet)))), [.tmp (.v 5)]⟩
theorem G339_ok (fn : Nat → Option Func) (pu : Nat → Bool) (pr : Nat → List AV → Option (Heap → Option (Eff × Acc))) : ZOk ⟨Tryz.tyT, fn, pu, pr⟩ npT F339 (G339 ⟨Tryz.tyT, fn, pu, pr⟩) := ⟨by kernel_rfl, by kernel_rfl, by kernel_rfl, fun cy Y k => by kernel_rfl⟩
noncomputable def F347 : FFn := cF LV 0 [0, 1] Tryz.f347
noncomputable def G347 (E : Env) : ZFn := ⟨10, [0, 1], fun cy Y fuel =>
  (zDreg 2 fun n0 k => (zPD (vNilCheck (.v 0))) ((zPD (vFieldAddr 0 (.l 0))) ((zCallD (cy Y) B58 4 259 [(.v 1)] .push) ((zCallD (cy Y) B58 5 348 [(.l 1), (.l 0)] .push) k)))), []⟩
theorem G347_ok (fn : Nat → Option Func) (pu : Nat → Bool) (pr : Nat → List AV → Option (Heap → Option (Eff × Acc))) : ZOk ⟨Tryz.tyT, fn, pu, pr⟩ npT F347 (G347 ⟨Tryz.tyT, fn, pu, pr⟩) := ⟨by kernel_rfl, by kernel_rfl, by kernel_rfl, fun cy Y k => by kernel_rfl⟩
noncomputable def F348 : FFn := cF LV 0 [0, 1, 4, 5] Tryz.f348
noncomputable def G348 (E : Env) : ZFn := ⟨19, [0, 1, 4, 5], fun cy Y fuel =>
  (zSeq (zReg fun k => (zV 2 (vMv (.k (.int .i64 0)))) ((zV 3 (vMv (.k .nilIface))) k))
  (zSeq (zReg fun k => (zStep E (cy Y) ⟨.call 391 [(.v 0)], .push, none, false, 1, (some 0)⟩) k)
  (zSeq (zReg fun k => (zP (vNilCheck (.v 0))) ((zP (vFieldAddr 1 (.l 0))) ((zL 1 false (.l 0)) ((zStep E (cy Y) ⟨.append 28 9 (.l 0) (.v 1), .push, none, false, 6, (some 0)⟩) ((zP (vNilCheck (.v 0))) ((zP (vFieldAddr 1 (.l 0))) ((zStep E (cy Y) ⟨.store 28 (.l 0) (.l 2), .none, none, false, 9, none⟩) k)))))))
  (zSeq (zReg fun k => (zP (vLenS (.v 1))) ((zV 2 (vMv (.l 0))) ((zV 3 (vMv (.k .nilIface))) k)))
  zRet)))), [.tmp (.v 2), .tmp (.v 3)]⟩
theorem G348_ok (fn : Nat → Option Func) (pu : Nat → Bool) (pr : Nat → List AV → Option (Heap → Option (Eff × Acc))) : ZOk ⟨Tryz.tyT, fn, pu, pr⟩ npT F348 (G348 ⟨Tryz.tyT, fn, pu, pr⟩) := ⟨by kernel_rfl, by kernel_rfl, by kernel_rfl, fun cy Y k => by kernel_rfl⟩
noncomputable def F350 : FFn := cF LV 0 [0, 1, 4] Tryz.f350
noncomputable def G350 (E : Env) : ZFn := ⟨10, [0, 1, 4], fun cy Y fuel =>
  (zSeq (zReg fun k => (zV 2 (vMv (.k (.bool false)))) k)
  (zSeq (zReg fun k => (zP (vNilCheck (.v 0))) ((zStep E (cy Y) ⟨.indexAddr 348 (.l 0) (.v 1), .push, none, true, 3, none⟩) ((zL 1 false (.l 0)) ((zV 2 (vMv (.l 0))) k))))
  zRet)), [.tmp (.v 2)]⟩
theorem G350_ok (fn : Nat → Option Func) (pu : Nat → Bool) (pr : Nat → List AV → Option (Heap → Option (Eff × Acc))) : ZOk ⟨Tryz.tyT, fn, pu, pr⟩ npT F350 (G350 ⟨Tryz.tyT, fn, pu, pr⟩) := ⟨by kernel_rfl, by kernel_rfl, by kernel_rfl, fun cy Y k => by kernel_rfl⟩
noncomputable def F373 : FFn := cF LV 18 [0, 1, 3, 2] Tryz.f373
noncomputable def G373 (E : Env) : ZFn := ⟨20, [0, 1, 3, 2], fun cy Y fuel =>
  (zSeq (zReg fun k => (zStep E (cy Y) ⟨.box 96 (.v 0), (.var 3), none, false, 0, (some 0)⟩) k)
  (zSeq (zReg fun k => (zStep E (cy Y) ⟨.mkMap 435, .push, none, false, 0, (some 0)⟩) ((zStep E (cy Y) ⟨.alloc 435, (.var 2), none, false, 1, (some 1)⟩) ((zStep E (cy Y) ⟨.store 435 (.v 2) (.l 0), .none, none, false, 2, none⟩) k)))
  (zSeq (zReg fun k => (zL 1 false (.v 1)) k)
  (zBlock 0 (zRange cy Y (.l 0) 18 [none, (some (.v 2)), none, (some (.v 3))] [none, none, (some (.v 3)), (some (.v 2)), none, none, none, none, none, none, none, none, none, none, none, none, none, none, none, none] [7] (codeAt [1, 1, 1, 0, 0] (bodyOf Tryz.f373)) (codeAt [1, 1, 1, 0, 1] (bodyOf Tryz.f373))))))), []⟩
theorem G373_ok (fn : Nat → Option Func) (pu : Nat → Bool) (pr : Nat → List AV → Option (Heap → Option (Eff × Acc))) : ZOk ⟨Tryz.tyT, fn, pu, pr⟩ npT F373 (G373 ⟨Tryz.tyT, fn, pu, pr⟩) := ⟨by kernel_rfl, by kernel_rfl, by kernel_rfl, fun cy Y k => by kernel_rfl⟩
noncomputable def F374 : FFn := cF LV 0 [0, 1, 4] Tryz.f374
noncomputable def G374 (E : Env) : ZFn := ⟨13, [0, 1, 4], fun cy Y fuel =>
  (zSeq (zReg fun k => (zV 2 (vMv (.k (.int .u64 0)))) k)
  (zSeq (zReg fun k => (zCall (cy Y) 404 [(.v 0)] .push) ((zP (vInt E fAdd .add 9 true false (.k (.str [110, 111, 100, 101])) (.l 0))) ((zCall (cy Y) 404 [(.v 1)] .push) ((zP (vInt E fAdd .add 9 false false (.l 1) (.l 0))) ((zCall (cy Y) 218 [(.l 0)] .push) ((zCall (cy Y) 378 [(.l 0)] .push) ((zV 2 (vMv (.l 0))) k)))))))
  zRet)), [.tmp (.v 2)]⟩
theorem G374_ok (fn : Nat → Option Func) (pu : Nat → Bool) (pr : Nat → List AV → Option (Heap → Option (Eff × Acc))) : ZOk ⟨Tryz.tyT, fn, pu, pr⟩ npT F374 (G374 ⟨Tryz.tyT, fn, pu, pr⟩) := ⟨by kernel_rfl, by kernel_rfl, by kernel_rfl, fun cy Y k => by kernel_rfl⟩
noncomputable def F375 : FFn := cF LV 0 [0, 4, 1] Tryz.f375
noncomputable def G375 (E : Env) : ZFn := ⟨14, [0, 4, 1], fun cy Y fuel =>
  (zSeq (zReg fun k => (zP (vLenL (.v 0))) ((zV 1 (vMv (.l 0))) k))
  (zReg fun k => (zP (vConv .u64 (.v 1))) ((zCall (cy Y) 241 [(.l 0)] .push) ((zCall (cy Y) 405 [(.v 0), (.k (.int .i64 0)), (.v 1), (.l 0), (.v 2)] .push) k)))), []⟩
theorem G375_ok (fn : Nat → Option Func) (pu : Nat → Bool) (pr : Nat → List AV → Option (Heap → Option (Eff × Acc))) : ZOk ⟨Tryz.tyT, fn, pu, pr⟩ npT F375 (G375 ⟨Tryz.tyT, fn, pu, pr⟩) := ⟨by kernel_rfl, by kernel_rfl, by kernel_rfl, fun cy Y k => by kernel_rfl⟩
noncomputable def F376 : FFn := cF LV 0 [0, 1, 3, 2, 4, 5] Tryz.f376
noncomputable def G376 (E : Env) : ZFn := ⟨22, [0, 1, 3, 2, 4, 5], fun cy Y fuel =>
  (zSeq (zReg fun k => (zStep E (cy Y) ⟨.box 438 (.v 0), (.var 2), none, false, 0, (some 0)⟩) ((zStep E (cy Y) ⟨.box 438 (.v 1), (.var 4), none, false, 1, (some 1)⟩) ((zV 5 (vMv (.k (.int .i64 0)))) k)))
  (zSeq (zDreg 4 fun n0 k => (zPD (vFieldAddr 0 (.v 2))) ((zLD B67 1 1 false (.l 0)) ((zLD B67 2 1 false (.v 3)) ((zPD (vInt E fSub .sub 33 false false (.l 1) (.l 0))) ((zPD (vFieldAddr 0 (.v 4))) ((zLD B67 5 1 false (.l 0)) ((zLD B67 6 1 false (.v 3)) ((zPD (vInt E fSub .sub 33 false false (.l 1) (.l 0))) ((zCallD (cy Y) B67 8 100 [(.l 4), (.l 0)] .push) ((zPD (vFieldAddr 1 (.v 2))) ((zLD B67 10 1 false (.l 0)) ((zPD (vFieldAddr 1 (.v 4))) ((zLD B67 12 1 false (.l 0)) ((zCallD (cy Y) B67 13 166 [(.l 2), (.l 0)] .push) ((zStepD E (cy Y) B67 n0 ⟨.buildSlice 98 2 [(0, (.l 5)), (1, (.l 0))], .push, none, false, 14, (some 2)⟩) ((zCallD (cy Y) B67 15 99 [(.l 0)] .push) ((zVD 5 (vMv (.l 0))) k)))))))))))))))))
  zRet)), [.tmp (.v 5)]⟩
theorem G376_ok (fn : Nat → Option Func) (pu : Nat → Bool) (pr : Nat → List AV → Option (Heap → Option (Eff × Acc))) : ZOk ⟨Tryz.tyT, fn, pu, pr⟩ npT F376 (G376 ⟨Tryz.tyT, fn, pu, pr⟩) := ⟨by kernel_rfl, by kernel_rfl, by kernel_rfl, fun cy Y k => by kernel_rfl⟩
noncomputable def F377 : FFn := cF LV 0 [1, 7, 6, 5, 0, 4] Tryz.f377
noncomputable def G377 (E : Env) : ZFn := ⟨17, [1, 7, 6, 5, 0, 4], fun cy Y fuel =>
  (zSeq (zReg fun k => (zDstW (.var 3) (wLoad 1 false (.v 0))) ((zV 2 (vLenL (.v 3))) ((zV 1 (vMv (.k (.int .i64 0)))) k)))
  (zBlock 0 (zLoop fuel (zSeq (zReg fun k => (zP (vInt E fLss .lss 3 false false (.v 1) (.v 2))) k)
  (zSeq (zCond (.l 0) zSkip (zExit 0))
  (zSeq (zBlock 1 (zSeq (zReg fun k => (zP (vIndexAddr 2 (.v 3) (.v 1))) ((zL 2 true (.l 0)) ((zStep E (cy Y) ⟨.alloc 438, (.var 5), none, false, 2, (some 0)⟩) ((zStep E (cy Y) ⟨.store 438 (.v 5) (.l 0), .none, none, false, 3, none⟩) k))))
  (zSeq (zReg fun k => (zP (vFieldAddr 1 (.v 5))) ((zL 1 false (.l 0)) ((zStep E (cy Y) ⟨.callv (.v 4) [(.l 0)], .push, none, false, 3, (some 0)⟩) ((zP (vNot (.l 0))) k))))
  (zCond (.l 0) zRet zSkip))))
  (zReg fun k => (zP (vInt E fAdd .add 3 false true (.v 1) (.k (.int .i64 1)))) ((zV 1 (vMv (.l 0))) k)))))))), []⟩
theorem G377_ok (fn : Nat → Option Func) (pu : Nat → Bool) (pr : Nat → List AV → Option (Heap → Option (Eff × Acc))) : ZOk ⟨Tryz.tyT, fn, pu, pr⟩ npT F377 (G377 ⟨Tryz.tyT, fn, pu, pr⟩) := ⟨by kernel_rfl, by kernel_rfl, by kernel_rfl, fun cy Y k => by kernel_rfl⟩
noncomputable def F378 : FFn := cF LV 0 [3, 0, 2] Tryz.f378
noncomputable def G378 (E : Env) : ZFn := ⟨12, [3, 0, 2], fun cy Y fuel =>
  (zSeq (zReg fun k => (zV 2 (vMv (.k (.int .u64 0)))) k)
  (zSeq (zSeq (zReg fun k => (zV 0 (vMv (.k (.int .i64 0)))) k)
  (zBlock 0 (zLoop fuel (zSeq (zReg fun k => (zP (vInt E fLss .lss 3 false true (.v 0) (.k (.int .i64 2)))) k)
  (zSeq (zCond (.l 0) zSkip (zExit 0))
  (zSeq (zBlock 1 (zReg fun k => (zP (vMv (.v 1))) ((zP (vMv (.v 1))) ((zP (vBin E .shr 33 false true (.l 0) (.k (.int .u64 32)))) ((zP (vInt E (fGen .xor) .xor 33 false false (.l 2) (.l 0))) ((zP (vInt E (fGen .mul) .mul 33 false true (.l 0) (.k (.int .u64 11400714819323198485)))) ((zV 1 (vMv (.l 0))) k)))))))
  (zReg fun k => (zP (vInt E fAdd .add 3 false true (.v 0) (.k (.int .i64 1)))) ((zV 0 (vMv (.l 0))) k))))))))
  (zSeq (zReg fun k => (zV 2 (vMv (.v 1))) k)
  zRet))), [.tmp (.v 2)]⟩
theorem G378_ok (fn : Nat → Option Func) (pu : Nat → Bool) (pr : Nat → List AV → Option (Heap → Option (Eff × Acc))) : ZOk ⟨Tryz.tyT, fn, pu, pr⟩ npT F378 (G378 ⟨Tryz.tyT, fn, pu, pr⟩) := ⟨by kernel_rfl, by kernel_rfl, by kernel_rfl, fun cy Y k => by kernel_rfl⟩
noncomputable def F388 : FFn := cF LV 0 [0, 2] Tryz.f388
noncomputable def G388 (E : Env) : ZFn := ⟨6, [0, 2], fun cy Y fuel =>
  (zSeq (zReg fun k => (zV 1 (vMv (.k (.bool false)))) k)
  (zSeq (zReg fun k => (zP (vInt E fNeq .neq 9 false false (.v 0) (.v 0))) ((zV 1 (vMv (.l 0))) k))
  zRet)), [.tmp (.v 1)]⟩
theorem G388_ok (fn : Nat → Option Func) (pu : Nat → Bool) (pr : Nat → List AV → Option (Heap → Option (Eff × Acc))) : ZOk ⟨Tryz.tyT, fn, pu, pr⟩ npT F388 (G388 ⟨Tryz.tyT, fn, pu, pr⟩) := ⟨by kernel_rfl, by kernel_rfl, by kernel_rfl, fun cy Y k => by kernel_rfl⟩
noncomputable def F404 : FFn := cF LV 0 [0, 2] Tryz.f404
noncomputable def G404 (E : Env) : ZFn := ⟨7, [0, 2], fun cy Y fuel =>
  (zSeq (zReg fun k => (zV 1 (vMv (.k (.str [])))) k)
  (zSeq (zReg fun k => (zStep E (cy Y) ⟨.most true [(.v 0), (.k (.int .i64 0))], .push, none, false, 1, none⟩) ((zP (vConv .u64 (.l 0))) ((zCall (cy Y) 259 [(.l 0)] .push) ((zV 1 (vMv (.l 0))) k))))
  zRet)), [.tmp (.v 1)]⟩
theorem G404_ok (fn : Nat → Option Func) (pu : Nat → Bool) (pr : Nat → List AV → Option (Heap → Option (Eff × Acc))) : ZOk ⟨Tryz.tyT, fn, pu, pr⟩ npT F404 (G404 ⟨Tryz.tyT, fn, pu, pr⟩) := ⟨by kernel_rfl, by kernel_rfl, by kernel_rfl, fun cy Y k => by kernel_rfl⟩
noncomputable def F405 : FFn := cF LV 0 [2, 1, 12, 0, 4, 3, 10, 14, 13, 11, 15, 17, 16, 18, 19, 20] Tryz.f405
noncomputable def G405 (E : Env) : ZFn := ⟨148, [2, 1, 12, 0, 4, 3, 10, 14, 13, 11, 15, 17, 16, 18, 19, 20], fun cy Y fuel =>
  (zSeq (zReg fun k => (zV 6 (vMv (.k (.bool true)))) k)
  (zSeq (zReg fun k => (zV 9 (vMv (.k (.bool true)))) k)
  (zBlock 0 (zLoop fuel (zBlock 1 (zSeq (zReg fun k => (zP (vInt E fSub .sub 3 false false (.v 0) (.v 1))) ((zV 2 (vMv (.l 0))) k))
  (zSeq (zSeq (zReg fun k => (zP (vInt E (fGen .leq) .leq 3 false true (.v 2) (.k (.int .i64 12)))) k)
  (zCond (.l 0) (zSeq (zReg fun k => (zCall (cy Y) 413 [(.v 3), (.v 1), (.v 0), (.v 4)] .push) k)
  zRet) zSkip))
  (zSeq (zSeq (zReg fun k => (zP (vInt E fEql .eql 3 false true (.v 5) (.k (.int .i64 0)))) k)
  (zCond (.l 0) (zSeq (zReg fun k => (zCall (cy Y) 414 [(.v 3), (.v 1), (.v 0), (.v 4)] .push) k)
  zRet) zSkip))
  (zSeq (zSeq (zReg fun k => (zP (vNot (.v 6))) k)
  (zCond (.l 0) (zSeq (zReg fun k => (zCall (cy Y) 415 [(.v 3), (.v 1), (.v 0), (.v 4)] .push) k)
  (zReg fun k => (zP (vMv (.v 5))) ((zP (vInt E fSub .sub 3 false true (.l 0) (.k (.int .i64 1)))) ((zV 5 (vMv (.l 0))) k)))) zSkip))
  (zSeq (zReg fun k => (zCall (cy Y) 416 [(.v 3), (.v 1), (.v 0), (.v 4)] .push) ((zP (vExtract 0 (.l 0))) ((zP (vExtract 1 (.l 1))) ((zV 8 (vMv (.l 1))) ((zV 7 (vMv (.l 0))) k)))))
  (zSeq (zSeq (zReg fun k => (zP (vInt E fEql .eql 378 false true (.v 7) (.k (.int .i64 2)))) k)
  (zCond (.l 0) (zSeq (zReg fun k => (zCall (cy Y) 417 [(.v 3), (.v 1), (.v 0), (.v 4)] .push) k)
  (zSeq (zReg fun k => (zP (vInt E fSub .sub 3 false true (.v 0) (.k (.int .i64 1)))) ((zP (vMv (.v 8))) ((zP (vInt E fSub .sub 3 false false (.l 0) (.v 1))) ((zP (vInt E fSub .sub 3 false false (.l 2) (.l 0))) ((zV 8 (vMv (.l 0))) k)))))
  (zReg fun k => (zV 7 (vMv (.k (.int .i64 1)))) k))) zSkip))
  (zSeq (zSeq (zReg fun k => (zG (.v 6) true .push (zP (vMv (.v 9)))) ((zP (vPick (.v 6) (.l 0) (.k (.bool false)))) ((zG (.l 0) true .push (zP (vMv (.v 7)))) ((zG (.l 1) true .push (zP (vInt E fEql .eql 378 false true (.l 0) (.k (.int .i64 1))))) ((zP (vPick (.l 2) (.l 0) (.k (.bool false)))) k)))))
  (zCond (.l 0) (zSeq (zReg fun k => (zCall (cy Y) 418 [(.v 3), (.v 1), (.v 0), (.v 4)] .push) k)
  (zCond (.l 0) zRet zSkip)) zSkip))
  (zSeq (zSeq (zDreg 1 fun n0 k => (zPD (vInt E fGtr .gtr 3 false true (.v 1) (.k (.int .i64 0)))) ((zGD (.l 0) true .push (zPD (vMv (.v 4)))) ((zGD (.l 1) true .push (zPD (vMv (.v 3)))) ((zGD (.l 2) true .push (zPD (vMv (.v 1)))) ((zGD (.l 3) true .push (zPD (vInt E fSub .sub 3 false true (.l 0) (.k (.int .i64 1))))) ((zGD (.l 4) true .push (zPD (vIndexAddr 2 (.l 2) (.l 0)))) ((zGD (.l 5) true .push (zLD B68 8 2 true (.l 0))) ((zGD (.l 6) true .push (zPD (vMv (.v 3)))) ((zGD (.l 7) true .push (zPD (vMv (.v 8)))) ((zGD (.l 8) true .push (zPD (vIndexAddr 2 (.l 1) (.l 0)))) ((zGD (.l 9) true .push (zLD B68 12 2 true (.l 0))) ((zGD (.l 10) true .push (zStepD E (cy Y) B68 n0 ⟨.callv (.l 9) [(.l 4), (.l 0)], .push, none, false, 13, (some 0)⟩)) ((zGD (.l 11) true .push (zPD (vInt E fLss .lss 3 false true (.l 0) (.k (.int .i64 0))))) ((zGD (.l 12) true .push (zPD (vNot (.l 0)))) ((zPD (vPick (.l 13) (.l 0) (.k (.bool false)))) k)))))))))))))))
  (zCond (.l 0) (zSeq (zReg fun k => (zCall (cy Y) 419 [(.v 3), (.v 1), (.v 0), (.v 8), (.v 4)] .push) ((zV 10 (vMv (.l 0))) k))
  (zSeq (zReg fun k => (zV 1 (vMv (.v 10))) k)
  (zExit 1))) zSkip))
  (zSeq (zReg fun k => (zCall (cy Y) 420 [(.v 3), (.v 1), (.v 0), (.v 8), (.v 4)] .push) ((zP (vExtract 0 (.l 0))) ((zP (vExtract 1 (.l 1))) ((zV 12 (vMv (.l 1))) ((zV 11 (vMv (.l 0))) k)))))
  (zSeq (zReg fun k => (zV 9 (vMv (.v 11))) k)
  (zSeq (zReg fun k => (zP (vInt E fSub .sub 3 false false (.v 12) (.v 1))) ((zP (vInt E fSub .sub 3 false false (.v 0) (.v 12))) ((zV 13 (vMv (.l 1))) ((zV 14 (vMv (.l 0))) k))))
  (zSeq (zReg fun k => (zP (vInt E (fGen .quo) .quo 3 false true (.v 2) (.k (.int .i64 8)))) ((zV 15 (vMv (.l 0))) k))
  (zSeq (zReg fun k => (zP (vInt E fLss .lss 3 false false (.v 13) (.v 14))) k)
  (zCond (.l 0) (zSeq (zReg fun k => (zP (vInt E (fGen .geq) .geq 3 false false (.v 13) (.v 15))) ((zV 6 (vMv (.l 0))) k))
  (zSeq (zReg fun k => (zCall (cy Y) 405 [(.v 3), (.v 1), (.v 12), (.v 5), (.v 4)] .push) k)
  (zReg fun k => (zP (vInt E fAdd .add 3 false true (.v 12) (.k (.int .i64 1)))) ((zV 1 (vMv (.l 0))) k)))) (zSeq (zReg fun k => (zP (vInt E (fGen .geq) .geq 3 false false (.v 14) (.v 15))) ((zV 6 (vMv (.l 0))) k))
  (zSeq (zReg fun k => (zP (vInt E fAdd .add 3 false true (.v 12) (.k (.int .i64 1)))) ((zCall (cy Y) 405 [(.v 3), (.l 0), (.v 0), (.v 5), (.v 4)] .push) k))
  (zReg fun k => (zV 0 (vMv (.v 12))) k)))))))))))))))))))))), []⟩
theorem G405_ok (fn : Nat → Option Func) (pu : Nat → Bool) (pr : Nat → List AV → Option (Heap → Option (Eff × Acc))) : ZOk ⟨Tryz.tyT, fn, pu, pr⟩ npT F405 (G405 ⟨Tryz.tyT, fn, pu, pr⟩) := ⟨by kernel_rfl, by kernel_rfl, by kernel_rfl, fun cy Y k => by kernel_rfl⟩
noncomputable def F413 : FFn := cF LV 0 [1, 8, 2, 9, 3, 0] Tryz.f413
noncomputable def G413 (E : Env) : ZFn := ⟨53, [1, 8, 2, 9, 3, 0], fun cy Y fuel =>
  (zSeq (zReg fun k => (zP (vInt E fAdd .add 3 false true (.v 0) (.k (.int .i64 1)))) ((zV 1 (vMv (.l 0))) k))
  (zBlock 0 (zLoop fuel (zSeq (zSeq (zReg fun k => (zP (vInt E fLss .lss 3 false false (.v 1) (.v 2))) k)
  (zCond (.l 0) zSkip (zExit 0)))
  (zSeq (zBlock 1 (zSeq (zReg fun k => (zV 3 (vMv (.v 1))) k)
  (zBlock 2 (zLoop fuel (zSeq (zSeq (zDreg 1 fun n0 k => (zPD (vInt E fGtr .gtr 3 false false (.v 3) (.v 0))) ((zGD (.l 0) true .push (zPD (vMv (.v 4)))) ((zGD (.l 1) true .push (zPD (vMv (.v 5)))) ((zGD (.l 2) true .push (zPD (vMv (.v 3)))) ((zGD (.l 3) true .push (zPD (vIndexAddr 2 (.l 1) (.l 0)))) ((zGD (.l 4) true .push (zLD B69 8 2 true (.l 0))) ((zGD (.l 5) true .push (zPD (vMv (.v 5)))) ((zGD (.l 6) true .push (zPD (vMv (.v 3)))) ((zGD (.l 7) true .push (zPD (vInt E fSub .sub 3 false true (.l 0) (.k (.int .i64 1))))) ((zGD (.l 8) true .push (zPD (vIndexAddr 2 (.l 2) (.l 0)))) ((zGD (.l 9) true .push (zLD B69 13 2 true (.l 0))) ((zGD (.l 10) true .push (zStepD E (cy Y) B69 n0 ⟨.callv (.l 9) [(.l 5), (.l 0)], .push, none, false, 14, (some 0)⟩)) ((zGD (.l 11) true .push (zPD (vInt E fLss .lss 3 false true (.l 0) (.k (.int .i64 0))))) ((zPD (vPick (.l 12) (.l 0) (.k (.bool false)))) k))))))))))))))
  (zCond (.l 0) zSkip (zExit 2)))
  (zSeq (zBlock 3 (zDreg 0 fun n0 k => (zPD (vInt E fSub .sub 3 false true (.v 3) (.k (.int .i64 1)))) ((zPD (vInt E fSub .sub 3 false true (.v 3) (.k (.int .i64 1)))) ((zPD (vIndexAddr 2 (.v 5) (.l 0))) ((zLD B70 9 2 true (.l 0)) ((zPD (vIndexAddr 2 (.v 5) (.v 3))) ((zLD B70 13 2 true (.l 0)) ((zPD (vIndexAddr 2 (.v 5) (.v 3))) ((zStepD E (cy Y) B70 n0 ⟨.store 438 (.l 0) (.l 3), .none, none, false, 15, none⟩) ((zPD (vIndexAddr 2 (.v 5) (.l 6))) ((zStepD E (cy Y) B70 n0 ⟨.store 438 (.l 0) (.l 2), .none, none, false, 17, none⟩) k)))))))))))
  (zReg fun k => (zP (vMv (.v 3))) ((zP (vInt E fSub .sub 3 false true (.l 0) (.k (.int .i64 1)))) ((zV 3 (vMv (.l 0))) k)))))))))
  (zReg fun k => (zP (vMv (.v 1))) ((zP (vInt E fAdd .add 3 false true (.l 0) (.k (.int .i64 1)))) ((zV 1 (vMv (.l 0))) k)))))))), []⟩
theorem G413_ok (fn : Nat → Option Func) (pu : Nat → Bool) (pr : Nat → List AV → Option (Heap → Option (Eff × Acc))) : ZOk ⟨Tryz.tyT, fn, pu, pr⟩ npT F413 (G413 ⟨Tryz.tyT, fn, pu, pr⟩) := ⟨by kernel_rfl, by kernel_rfl, by kernel_rfl, fun cy Y k => by kernel_rfl⟩
end Go.Proofs.PxDh
