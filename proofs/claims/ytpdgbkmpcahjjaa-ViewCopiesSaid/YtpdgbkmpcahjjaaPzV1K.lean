/- ViewCopies: its pieces. -/
import Derived.Test.YtpdgbkmpcahjjaaPzV1G
import Derived.Test.YtpdgbkmpcahjjaaPxV1E
import Derived.Test.YtpdgbkmpcahjjaaPb3
set_option linter.unusedVariables false
set_option linter.unusedSimpArgs false
set_option maxRecDepth 100000
namespace Go.Proofs.PxV1
open Go Go.Px


def isT : Option (AV × TH × Acc) → Bool
  | some (.bool true, _, _) => true
  | _ => false
theorem isT_ok {x : Option (AV × TH × Acc)} (h : isT x = true) : ∃ H acc, x = some (.bool true, H, acc) := by
  unfold isT at h
  split at h
  · exact ⟨_, _, rfl⟩
  · cases h
def isB : Ans → Bool
  | some (.bool true, _) => true
  | _ => false
theorem isB_ok {x : Ans} (h : isB x = true) : ∃ H, x = some (.bool true, H) := by
  unfold isB at h
  split at h
  · exact ⟨_, rfl⟩
  · cases h
def knownT : List AV → Option AV
  | [] => some (.bool true)
  | _ => none
theorem npT_ne {f : Nat} (h : npT f = true) {g : Nat} (hg : g ∈ toldT) : f ≠ g := fun e => by
  subst e
  unfold npT at h
  simp only [Bool.not_eq_true', List.any_eq_false] at h
  exact h f hg (Nat.beq_refl f)
theorem hnp1 : ∀ f, npT f = true → ∀ l, E1.prim f l = none := fun f h l => np1 (npT_ne h (by decide)) (npT_ne h (by decide)) (npT_ne h (by decide)) (npT_ne h (by decide)) l
theorem z_ok {E : Env} (hT : E.ty = Try.tyT) (hF : E.fn = Try.fnT) (hN : PrimNL E) (hnp : ∀ f, npT f = true → ∀ l, E.prim f l = none) {k f : Nat} {args : List AV} {r : AV × TH × Acc} (h : callZ E (GE E) (LZ E) k [] (.func f) args .nil = some r) : ∃ H, callA E k (.func f) args [] = some (r.1, H, r.2.2) :=
  callZ_ok hnp hN (ze_ok hT) (zle_ok hT) (fe_ok hF) tab_le h
theorem knownF : isT (callZ E1 (GE E1) (LZ E1) 400 [] (.func 9) [] .nil) = true := by decide +kernel
noncomputable def E2 : Env := E1.tell 9 knownT
theorem env2 : EnvOk Try.prog E2 := tell_ok env1 9 knownT
theorem fr2 : PrimFr E2 := tell_fr fr1 9 knownT
theorem nl2 : PrimNL E2 := tell_nl nl1
theorem hnp2 : ∀ f, npT f = true → ∀ l, E2.prim f l = none := fun f h l => tell_np (npT_ne h (by decide)) (hnp1 f h l)
theorem ok2 : PrimOk Try.prog E2 := tell_prim env1 fr1 ok1 mixed (by decide +kernel) fun args r h => by
  unfold knownT at h
  split at h
  · cases h
    obtain ⟨H', acc, h⟩ := isT_ok knownF
    obtain ⟨H1, h⟩ := z_ok rfl rfl nl1 hnp1 h
    exact ⟨400, H1, acc, h⟩
  · cases h
noncomputable abbrev cy2 : CallYT := callZ E2 (GE E2) (LZ E2) 399

noncomputable def pre4 (E : Env) (cy : CallYT) (Y : YE) (fuel : Nat) : CZ :=
  (zSeq (zReg fun k => (zV 8 (vMv (.k (.bool false)))) k)
  (zSeq (zSeq (zReg fun k => (zStep E (cy Y) ⟨.call 9 [], .push, none, false, 0, (some 0)⟩) ((zP (vNot (.l 0))) k))
  (zCond (.l 0) (zSeq (zReg fun k => (zV 8 (vMv (.k (.bool false)))) k)
  zRet) zSkip))
  (zSeq (zSeq (zReg fun k => (zP (vLenL (.v 0))) ((zP (vInt E fGtr .gtr 3 false true (.l 0) (.k (.int .i64 20)))) k))
  (zCond (.l 0) (zSeq (zReg fun k => (zV 8 (vMv (.k (.bool true)))) k)
  zRet) zSkip))
  (zSeq (zReg fun k => (zStep E (cy Y) ⟨.build 25 [], .push, none, false, 0, none⟩) ((zStep E (cy Y) ⟨.alloc 25, (.var 2), none, false, 1, (some 0)⟩) ((zStep E (cy Y) ⟨.store 25 (.v 2) (.l 0), .none, none, false, 2, none⟩) k)))
  (zSeq (zReg fun k => (zV 5 (vMv (.k (.int .i64 2)))) k)
  (zReg fun k => (zV 1 (vMv (.k (.int .i64 0)))) k))))))
noncomputable def body4 (E : Env) (cy : CallYT) (Y : YE) (fuel : Nat) : CZ :=
  (zSeq (zSeq (zReg fun k => (zP (vLenL (.v 0))) ((zP (vInt E fLss .lss 3 false false (.v 1) (.l 0))) k))
  (zCond (.l 0) zSkip (zExit 0)))
  (zSeq (zBlock 1 (zSeq (zDreg 1 fun n0 k => (zLD B0 0 2 true (.v 2)) ((zPD (vIndexAddr 1 (.v 0) (.v 1))) ((zLD B0 4 1 false (.l 0)) ((zPD (vInt E (fGen .rem) .rem 5 false true (.l 0) (.k (.int .u8 5)))) ((zPD (vConv .i64 (.l 0))) ((zCallD (cy Y) B0 7 26 [(.l 4), (.k (.str [109, 49])), (.l 0)] .push) ((zStepD E (cy Y) B0 n0 ⟨.store 25 (.v 2) (.l 0), .none, none, false, 8, none⟩) k)))))))
  (zReg fun k => (zP (vIndexAddr 1 (.v 0) (.v 1))) ((zL 1 false (.l 0)) ((zP (vInt E (fGen .rem) .rem 5 false true (.l 0) (.k (.int .u8 5)))) ((zP (vConv .i64 (.l 0))) ((zStep E (cy Y) ⟨.most false [(.l 0), (.k (.int .i64 3))], .push, none, false, 6, none⟩) ((zStep E (cy Y) ⟨.most true [(.k (.int .i64 1)), (.l 0)], .push, none, false, 7, none⟩) ((zV 5 (vMv (.l 0))) k)))))))))
  (zReg fun k => (zP (vMv (.v 1))) ((zP (vInt E fAdd .add 3 false true (.l 0) (.k (.int .i64 1)))) ((zV 1 (vMv (.l 0))) k)))))
noncomputable def rest4 (E : Env) (cy : CallYT) (Y : YE) (fuel : Nat) : CZ :=
  (zSeq (zDreg 4 fun n0 k => (zLD B1 0 2 true (.v 2)) ((zPD (vInt E (fGen .rem) .rem 5 false true (.v 3) (.k (.int .u8 3)))) ((zPD (vConv .i64 (.l 0))) ((zPD (vInt E fAdd .add 3 false true (.l 0) (.k (.int .i64 1)))) ((zCallD (cy Y) B1 5 26 [(.l 3), (.k (.str [109, 49])), (.l 0)] .push) ((zLD B1 6 2 true (.v 2)) ((zPD (vInt E (fGen .rem) .rem 5 false true (.v 4) (.k (.int .u8 3)))) ((zPD (vConv .i64 (.l 0))) ((zPD (vInt E fAdd .add 3 false true (.l 0) (.k (.int .i64 1)))) ((zCallD (cy Y) B1 11 26 [(.l 3), (.k (.str [109, 49])), (.l 0)] .push) ((zStepD E (cy Y) B1 n0 ⟨.alloc 25, (.var 6), none, false, 12, (some 2)⟩) ((zStepD E (cy Y) B1 n0 ⟨.alloc 25, (.var 7), none, false, 13, (some 3)⟩) ((zStepD E (cy Y) B1 n0 ⟨.store 25 (.v 6) (.l 5), .none, none, false, 14, none⟩) ((zStepD E (cy Y) B1 n0 ⟨.store 25 (.v 7) (.l 0), .none, none, false, 15, none⟩) k))))))))))))))
  (zSeq (zDreg 8 fun n0 k => (zLD B2 0 2 true (.v 2)) ((zCallD (cy Y) B2 1 24 [(.l 0), (.k (.str [109, 49]))] .push) ((zPD (vInt E fEql .eql 3 false false (.l 0) (.v 5))) ((zGD (.l 0) true .push (zLD B2 5 2 true (.v 6))) ((zGD (.l 1) true .push (zLD B2 6 2 true (.v 2))) ((zGD (.l 2) true .push (zCallD (cy Y) B2 7 17 [(.l 1), (.l 0)] .push)) ((zGD (.l 3) true .push (zCallD (cy Y) B2 8 24 [(.l 0), (.k (.str [109, 49]))] .push)) ((zGD (.l 4) true .push (zPD (vMv (.v 3)))) ((zGD (.l 5) true .push (zPD (vInt E (fGen .rem) .rem 5 false true (.l 0) (.k (.int .u8 3))))) ((zGD (.l 6) true .push (zPD (vConv .i64 (.l 0)))) ((zGD (.l 7) true .push (zPD (vInt E fAdd .add 3 false true (.l 0) (.k (.int .i64 1))))) ((zGD (.l 8) true .push (zPD (vInt E fEql .eql 3 false false (.l 4) (.l 0)))) ((zPD (vPick (.l 9) (.l 0) (.k (.bool false)))) ((zGD (.l 0) true .push (zLD B2 16 2 true (.v 6))) ((zGD (.l 1) true .push (zLD B2 17 2 true (.v 7))) ((zGD (.l 2) true .push (zCallD (cy Y) B2 18 17 [(.l 1), (.l 0)] .push)) ((zGD (.l 3) true .push (zCallD (cy Y) B2 19 24 [(.l 0), (.k (.str [109, 49]))] .push)) ((zGD (.l 4) true .push (zPD (vMv (.v 3)))) ((zGD (.l 5) true .push (zPD (vInt E (fGen .rem) .rem 5 false true (.l 0) (.k (.int .u8 3))))) ((zGD (.l 6) true .push (zPD (vConv .i64 (.l 0)))) ((zGD (.l 7) true .push (zPD (vMv (.v 4)))) ((zGD (.l 8) true .push (zPD (vInt E (fGen .rem) .rem 5 false true (.l 0) (.k (.int .u8 3))))) ((zGD (.l 9) true .push (zPD (vConv .i64 (.l 0)))) ((zGD (.l 10) true .push (zStepD E (cy Y) B2 n0 ⟨.most true [(.l 3), (.l 0)], .push, none, false, 26, none⟩)) ((zGD (.l 11) true .push (zPD (vInt E fAdd .add 3 false true (.l 0) (.k (.int .i64 1))))) ((zGD (.l 12) true .push (zPD (vInt E fEql .eql 3 false false (.l 8) (.l 0)))) ((zPD (vPick (.l 13) (.l 0) (.k (.bool false)))) ((zGD (.l 0) true .push (zLD B2 31 2 true (.v 2))) ((zGD (.l 1) true .push (zCallD (cy Y) B2 32 24 [(.l 0), (.k (.str [109, 50]))] .push)) ((zGD (.l 2) true .push (zPD (vInt E fEql .eql 3 false true (.l 0) (.k (.int .i64 2))))) ((zPD (vPick (.l 3) (.l 0) (.k (.bool false)))) ((zGD (.l 0) true .push (zLD B2 36 2 true (.v 2))) ((zGD (.l 1) true .push (zCallD (cy Y) B2 37 26 [(.l 0), (.k (.str [])), (.k (.int .i64 2))] .push)) ((zGD (.l 2) true .push (zLD B2 38 2 true (.v 2))) ((zGD (.l 3) true .push (zCallD (cy Y) B2 39 12 [(.l 1), (.l 0)] .push)) ((zPD (vPick (.l 4) (.l 0) (.k (.bool false)))) ((zVD 8 (vMv (.l 0))) k)))))))))))))))))))))))))))))))))))))
  zRet))

noncomputable abbrev fin2 : KB := finZ E2 [.tmp (.v 8)]
noncomputable abbrev kx2 : Nat → KB := fun _ _ _ _ => none
noncomputable def after2 : KB := rest4 E2 cy2 [] 399 fin2 kx2 fin2
noncomputable def exit2 : Nat → KB := fun i L V H => ifZ (Nat.beq i 0) (after2 L V H) (kx2 i L V H)
noncomputable def loop2 (f : Nat) : KB := zLoop f (body4 E2 cy2 [] 399) after2 exit2 fin2
theorem loop2_succ (f : Nat) : loop2 (f + 1) = body4 E2 cy2 [] 399 (loop2 f) exit2 fin2 := rfl
theorem whole (V : List AV) : (G4 E2).z cy2 [] 399 fin2 kx2 fin2 [] V .nil = pre4 E2 cy2 [] 399 (loop2 399) kx2 fin2 [] V .nil := by kernel_rfl

def R0_0 : List AV := [.sl 0 [] true, .sl 0 [] true]
def R1_1 : List AV := [.sl 0 [] true, .sl 1 [.str [109, 49], .int .u64 1, .int .u64 1] false]
def R1_2 : List AV := [.sl 0 [] true, .sl 1 [.str [109, 49], .int .u64 1, .int .u64 2] false]
def R1_3 : List AV := [.sl 0 [] true, .sl 1 [.str [109, 49], .int .u64 1, .int .u64 3] false]
def R2_1 : List AV := [.sl 0 [] true, .sl 1 [.str [109, 49], .int .u64 2, .int .u64 1] false]
def R2_2 : List AV := [.sl 0 [] true, .sl 1 [.str [109, 49], .int .u64 2, .int .u64 2] false]
def R2_3 : List AV := [.sl 0 [] true, .sl 1 [.str [109, 49], .int .u64 2, .int .u64 3] false]
def R3_1 : List AV := [.sl 0 [] true, .sl 1 [.str [109, 49], .int .u64 3, .int .u64 1] false]
def R3_2 : List AV := [.sl 0 [] true, .sl 1 [.str [109, 49], .int .u64 3, .int .u64 2] false]
def R3_3 : List AV := [.sl 0 [] true, .sl 1 [.str [109, 49], .int .u64 3, .int .u64 3] false]
def R4_1 : List AV := [.sl 0 [] true, .sl 1 [.str [109, 49], .int .u64 4, .int .u64 1] false]
def R4_2 : List AV := [.sl 0 [] true, .sl 1 [.str [109, 49], .int .u64 4, .int .u64 2] false]
def R4_3 : List AV := [.sl 0 [] true, .sl 1 [.str [109, 49], .int .u64 4, .int .u64 3] false]
def R5_1 : List AV := [.sl 0 [] true, .sl 1 [.str [109, 49], .int .u64 5, .int .u64 1] false]
def R5_2 : List AV := [.sl 0 [] true, .sl 1 [.str [109, 49], .int .u64 5, .int .u64 2] false]
def R5_3 : List AV := [.sl 0 [] true, .sl 1 [.str [109, 49], .int .u64 5, .int .u64 3] false]
def R6_1 : List AV := [.sl 0 [] true, .sl 1 [.str [109, 49], .int .u64 6, .int .u64 1] false]
def R6_2 : List AV := [.sl 0 [] true, .sl 1 [.str [109, 49], .int .u64 6, .int .u64 2] false]
def R6_3 : List AV := [.sl 0 [] true, .sl 1 [.str [109, 49], .int .u64 6, .int .u64 3] false]
def R7_1 : List AV := [.sl 0 [] true, .sl 1 [.str [109, 49], .int .u64 7, .int .u64 1] false]
def R7_2 : List AV := [.sl 0 [] true, .sl 1 [.str [109, 49], .int .u64 7, .int .u64 2] false]
def R7_3 : List AV := [.sl 0 [] true, .sl 1 [.str [109, 49], .int .u64 7, .int .u64 3] false]
def R8_1 : List AV := [.sl 0 [] true, .sl 1 [.str [109, 49], .int .u64 8, .int .u64 1] false]
def R8_2 : List AV := [.sl 0 [] true, .sl 1 [.str [109, 49], .int .u64 8, .int .u64 2] false]
def R8_3 : List AV := [.sl 0 [] true, .sl 1 [.str [109, 49], .int .u64 8, .int .u64 3] false]
def R9_1 : List AV := [.sl 0 [] true, .sl 1 [.str [109, 49], .int .u64 9, .int .u64 1] false]
def R9_2 : List AV := [.sl 0 [] true, .sl 1 [.str [109, 49], .int .u64 9, .int .u64 2] false]
def R9_3 : List AV := [.sl 0 [] true, .sl 1 [.str [109, 49], .int .u64 9, .int .u64 3] false]
def R10_1 : List AV := [.sl 0 [] true, .sl 1 [.str [109, 49], .int .u64 10, .int .u64 1] false]
def R10_2 : List AV := [.sl 0 [] true, .sl 1 [.str [109, 49], .int .u64 10, .int .u64 2] false]
def R10_3 : List AV := [.sl 0 [] true, .sl 1 [.str [109, 49], .int .u64 10, .int .u64 3] false]
def R11_1 : List AV := [.sl 0 [] true, .sl 1 [.str [109, 49], .int .u64 11, .int .u64 1] false]
def R11_2 : List AV := [.sl 0 [] true, .sl 1 [.str [109, 49], .int .u64 11, .int .u64 2] false]
def R11_3 : List AV := [.sl 0 [] true, .sl 1 [.str [109, 49], .int .u64 11, .int .u64 3] false]
def R12_1 : List AV := [.sl 0 [] true, .sl 1 [.str [109, 49], .int .u64 12, .int .u64 1] false]
def R12_2 : List AV := [.sl 0 [] true, .sl 1 [.str [109, 49], .int .u64 12, .int .u64 2] false]
def R12_3 : List AV := [.sl 0 [] true, .sl 1 [.str [109, 49], .int .u64 12, .int .u64 3] false]
def R13_1 : List AV := [.sl 0 [] true, .sl 1 [.str [109, 49], .int .u64 13, .int .u64 1] false]
def R13_2 : List AV := [.sl 0 [] true, .sl 1 [.str [109, 49], .int .u64 13, .int .u64 2] false]
def R13_3 : List AV := [.sl 0 [] true, .sl 1 [.str [109, 49], .int .u64 13, .int .u64 3] false]
def R14_1 : List AV := [.sl 0 [] true, .sl 1 [.str [109, 49], .int .u64 14, .int .u64 1] false]
def R14_2 : List AV := [.sl 0 [] true, .sl 1 [.str [109, 49], .int .u64 14, .int .u64 2] false]
def R14_3 : List AV := [.sl 0 [] true, .sl 1 [.str [109, 49], .int .u64 14, .int .u64 3] false]
def R15_1 : List AV := [.sl 0 [] true, .sl 1 [.str [109, 49], .int .u64 15, .int .u64 1] false]
def R15_2 : List AV := [.sl 0 [] true, .sl 1 [.str [109, 49], .int .u64 15, .int .u64 2] false]
def R15_3 : List AV := [.sl 0 [] true, .sl 1 [.str [109, 49], .int .u64 15, .int .u64 3] false]
def R16_1 : List AV := [.sl 0 [] true, .sl 1 [.str [109, 49], .int .u64 16, .int .u64 1] false]
def R16_2 : List AV := [.sl 0 [] true, .sl 1 [.str [109, 49], .int .u64 16, .int .u64 2] false]
def R16_3 : List AV := [.sl 0 [] true, .sl 1 [.str [109, 49], .int .u64 16, .int .u64 3] false]
def R17_1 : List AV := [.sl 0 [] true, .sl 1 [.str [109, 49], .int .u64 17, .int .u64 1] false]
def R17_2 : List AV := [.sl 0 [] true, .sl 1 [.str [109, 49], .int .u64 17, .int .u64 2] false]
def R17_3 : List AV := [.sl 0 [] true, .sl 1 [.str [109, 49], .int .u64 17, .int .u64 3] false]
def R18_1 : List AV := [.sl 0 [] true, .sl 1 [.str [109, 49], .int .u64 18, .int .u64 1] false]
def R18_2 : List AV := [.sl 0 [] true, .sl 1 [.str [109, 49], .int .u64 18, .int .u64 2] false]
def R18_3 : List AV := [.sl 0 [] true, .sl 1 [.str [109, 49], .int .u64 18, .int .u64 3] false]
def R19_1 : List AV := [.sl 0 [] true, .sl 1 [.str [109, 49], .int .u64 19, .int .u64 1] false]
def R19_2 : List AV := [.sl 0 [] true, .sl 1 [.str [109, 49], .int .u64 19, .int .u64 2] false]
def R19_3 : List AV := [.sl 0 [] true, .sl 1 [.str [109, 49], .int .u64 19, .int .u64 3] false]
def R20_1 : List AV := [.sl 0 [] true, .sl 1 [.str [109, 49], .int .u64 20, .int .u64 1] false]
def R20_2 : List AV := [.sl 0 [] true, .sl 1 [.str [109, 49], .int .u64 20, .int .u64 2] false]
def R20_3 : List AV := [.sl 0 [] true, .sl 1 [.str [109, 49], .int .u64 20, .int .u64 3] false]
noncomputable def TT (R : List AV) (i : Nat) : TH := rep (.row 25 R false :: List.replicate i .dead)
def V2 (i w n : Nat) (cells : List AV) (a b : AV) : List AV := [.sl n cells false, .int .i64 i, .loc 0 0, a, b, .int .i64 w, .undef, .undef, .bool false]
end Go.Proofs.PxV1
