/- The environments with their tables; the checks. -/
import Derived.Test.YtdkgahnccefagaaGreatDoorPzDtG
import Derived.Test.YtdkgahnccefagaaGreatDoorPxDtE
import Derived.Test.YtdkgahnccefagaaGreatDoorPzDtT
set_option linter.unusedVariables false
set_option linter.unusedSimpArgs false
set_option maxRecDepth 100000
namespace Go.Proofs.PxDt
open Go Go.Px


def isT : Option (AV × TH × Acc) → Bool
  | some (.bool true, _, _) => true
  | _ => false
theorem isT_ok {x : Option (AV × TH × Acc)} (h : isT x = true) : ∃ H acc, x = some (.bool true, H, acc) := by
  unfold isT at h
  split at h
  · exact ⟨_, _, rfl⟩
  · cases h
def saysZ (x : Option (AV × TH × Acc)) (r : AV) : Bool := match x with
  | some (v, _, _) => eqV v r
  | none => false
theorem saysZ_ok {x : Option (AV × TH × Acc)} {r : AV} (h : saysZ x r = true) : ∃ H acc, x = some (r, H, acc) := by
  unfold saysZ at h
  split at h
  · rw [eqV_ok h]; exact ⟨_, _, rfl⟩
  · cases h
theorem npT_ne {f : Nat} (h : npT f = true) {g : Nat} (hg : g ∈ toldT) : f ≠ g := fun e => by
  subst e
  unfold npT at h
  simp only [Bool.not_eq_true', List.any_eq_false] at h
  exact h f hg (Nat.beq_refl f)
theorem hnp1 : ∀ f, npT f = true → ∀ l, E1.prim f l = none := fun f h l => np1 (npT_ne h (by decide)) (npT_ne h (by decide)) (npT_ne h (by decide)) (npT_ne h (by decide)) (npT_ne h (by decide)) (npT_ne h (by decide)) (npT_ne h (by decide)) (npT_ne h (by decide)) (npT_ne h (by decide)) (npT_ne h (by decide)) l
theorem z_ok {E : Env} (hT : E.ty = Tryz.tyT) (hF : E.fn = Tryz.fnT) (hN : PrimNL E) (hnp : ∀ f, npT f = true → ∀ l, E.prim f l = none) {k f : Nat} {args : List AV} {r : AV × TH × Acc} (h : callZ E (GE E) (LZ E) k [] (.func f) args .nil = some r) : ∃ H, callA E k (.func f) args [] = some (r.1, H, r.2.2) :=
  callZ_ok hnp hN (ze_ok hT) (zle_ok hT) (fe_ok hF) tab_le h

noncomputable def E2 : Env := E1.tell 133 (memoQ T133)
theorem env2 : EnvOk Tryz.prog E2 := tell_ok env1 133 _
theorem fr2 : PrimFr E2 := tell_fr fr1 133 _
theorem nl2 : PrimNL E2 := tell_nl nl1
theorem hnp2 : ∀ f, npT f = true → ∀ l, E2.prim f l = none := fun f h l => tell_np (npT_ne h (by decide)) (hnp1 f h l)
noncomputable def chk133 (p : List AV × AV) : Bool := saysZ (callZ E1 (GE E1) (LZ E1) 400 [] (.func 133) p.1 .nil) p.2
noncomputable def E3 : Env := E2.tell 139 (memoQ T139)
theorem env3 : EnvOk Tryz.prog E3 := tell_ok env2 139 _
theorem fr3 : PrimFr E3 := tell_fr fr2 139 _
theorem nl3 : PrimNL E3 := tell_nl nl2
theorem hnp3 : ∀ f, npT f = true → ∀ l, E3.prim f l = none := fun f h l => tell_np (npT_ne h (by decide)) (hnp2 f h l)
noncomputable def chk139 (p : List AV × AV) : Bool := saysZ (callZ E2 (GE E2) (LZ E2) 400 [] (.func 139) p.1 .nil) p.2
noncomputable def E4 : Env := E3.tell 75 (memoQ T75)
theorem env4 : EnvOk Tryz.prog E4 := tell_ok env3 75 _
theorem fr4 : PrimFr E4 := tell_fr fr3 75 _
theorem nl4 : PrimNL E4 := tell_nl nl3
theorem hnp4 : ∀ f, npT f = true → ∀ l, E4.prim f l = none := fun f h l => tell_np (npT_ne h (by decide)) (hnp3 f h l)
noncomputable def chk75 (p : List AV × AV) : Bool := saysZ (callZ E3 (GE E3) (LZ E3) 400 [] (.func 75) p.1 .nil) p.2
noncomputable def E5 : Env := E4.tell 136 (memoQ T136)
theorem env5 : EnvOk Tryz.prog E5 := tell_ok env4 136 _
theorem fr5 : PrimFr E5 := tell_fr fr4 136 _
theorem nl5 : PrimNL E5 := tell_nl nl4
theorem hnp5 : ∀ f, npT f = true → ∀ l, E5.prim f l = none := fun f h l => tell_np (npT_ne h (by decide)) (hnp4 f h l)
noncomputable def chk136 (p : List AV × AV) : Bool := saysZ (callZ E4 (GE E4) (LZ E4) 400 [] (.func 136) p.1 .nil) p.2
noncomputable def E6 : Env := E5.tell 77 (memoQ T77)
theorem env6 : EnvOk Tryz.prog E6 := tell_ok env5 77 _
theorem fr6 : PrimFr E6 := tell_fr fr5 77 _
theorem nl6 : PrimNL E6 := tell_nl nl5
theorem hnp6 : ∀ f, npT f = true → ∀ l, E6.prim f l = none := fun f h l => tell_np (npT_ne h (by decide)) (hnp5 f h l)
noncomputable def chk77 (p : List AV × AV) : Bool := saysZ (callZ E5 (GE E5) (LZ E5) 400 [] (.func 77) p.1 .nil) p.2
noncomputable def E7 : Env := E6.tell 95 (memoQ T95)
theorem env7 : EnvOk Tryz.prog E7 := tell_ok env6 95 _
theorem fr7 : PrimFr E7 := tell_fr fr6 95 _
theorem nl7 : PrimNL E7 := tell_nl nl6
theorem hnp7 : ∀ f, npT f = true → ∀ l, E7.prim f l = none := fun f h l => tell_np (npT_ne h (by decide)) (hnp6 f h l)
noncomputable def chk95 (p : List AV × AV) : Bool := saysZ (callZ E6 (GE E6) (LZ E6) 400 [] (.func 95) p.1 .nil) p.2
noncomputable def E8 : Env := E7.tell 374 (memoQ T374)
theorem env8 : EnvOk Tryz.prog E8 := tell_ok env7 374 _
theorem fr8 : PrimFr E8 := tell_fr fr7 374 _
theorem nl8 : PrimNL E8 := tell_nl nl7
theorem hnp8 : ∀ f, npT f = true → ∀ l, E8.prim f l = none := fun f h l => tell_np (npT_ne h (by decide)) (hnp7 f h l)
noncomputable def chk374 (p : List AV × AV) : Bool := saysZ (callZ E7 (GE E7) (LZ E7) 400 [] (.func 374) p.1 .nil) p.2
noncomputable def E9 : Env := E8.tell 104 (memoQ T104)
theorem env9 : EnvOk Tryz.prog E9 := tell_ok env8 104 _
theorem fr9 : PrimFr E9 := tell_fr fr8 104 _
theorem nl9 : PrimNL E9 := tell_nl nl8
theorem hnp9 : ∀ f, npT f = true → ∀ l, E9.prim f l = none := fun f h l => tell_np (npT_ne h (by decide)) (hnp8 f h l)
noncomputable def chk104 (p : List AV × AV) : Bool := saysZ (callZ E8 (GE E8) (LZ E8) 400 [] (.func 104) p.1 .nil) p.2
noncomputable def E10 : Env := E9.tell 268 (memoQ T268)
theorem env10 : EnvOk Tryz.prog E10 := tell_ok env9 268 _
theorem fr10 : PrimFr E10 := tell_fr fr9 268 _
theorem nl10 : PrimNL E10 := tell_nl nl9
theorem hnp10 : ∀ f, npT f = true → ∀ l, E10.prim f l = none := fun f h l => tell_np (npT_ne h (by decide)) (hnp9 f h l)
noncomputable def chk268 (p : List AV × AV) : Bool := saysZ (callZ E9 (GE E9) (LZ E9) 400 [] (.func 268) p.1 .nil) p.2
noncomputable def E11 : Env := E10.tell 138 (memoQ T138)
theorem env11 : EnvOk Tryz.prog E11 := tell_ok env10 138 _
theorem fr11 : PrimFr E11 := tell_fr fr10 138 _
theorem nl11 : PrimNL E11 := tell_nl nl10
theorem hnp11 : ∀ f, npT f = true → ∀ l, E11.prim f l = none := fun f h l => tell_np (npT_ne h (by decide)) (hnp10 f h l)
noncomputable def chk138 (p : List AV × AV) : Bool := saysZ (callZ E10 (GE E10) (LZ E10) 400 [] (.func 138) p.1 .nil) p.2
noncomputable def E12 : Env := E11.tell 141 (memoQ T141)
theorem env12 : EnvOk Tryz.prog E12 := tell_ok env11 141 _
theorem fr12 : PrimFr E12 := tell_fr fr11 141 _
theorem nl12 : PrimNL E12 := tell_nl nl11
theorem hnp12 : ∀ f, npT f = true → ∀ l, E12.prim f l = none := fun f h l => tell_np (npT_ne h (by decide)) (hnp11 f h l)
noncomputable def chk141 (p : List AV × AV) : Bool := saysZ (callZ E11 (GE E11) (LZ E11) 400 [] (.func 141) p.1 .nil) p.2
noncomputable def E13 : Env := E12.tell 150 (memoQ T150)
theorem env13 : EnvOk Tryz.prog E13 := tell_ok env12 150 _
theorem fr13 : PrimFr E13 := tell_fr fr12 150 _
theorem nl13 : PrimNL E13 := tell_nl nl12
theorem hnp13 : ∀ f, npT f = true → ∀ l, E13.prim f l = none := fun f h l => tell_np (npT_ne h (by decide)) (hnp12 f h l)
noncomputable def chk150 (p : List AV × AV) : Bool := saysZ (callZ E12 (GE E12) (LZ E12) 400 [] (.func 150) p.1 .nil) p.2
noncomputable def E14 : Env := E13.tell 15 (memoQ T15)
theorem env14 : EnvOk Tryz.prog E14 := tell_ok env13 15 _
theorem fr14 : PrimFr E14 := tell_fr fr13 15 _
theorem nl14 : PrimNL E14 := tell_nl nl13
theorem hnp14 : ∀ f, npT f = true → ∀ l, E14.prim f l = none := fun f h l => tell_np (npT_ne h (by decide)) (hnp13 f h l)
noncomputable def chk15 (p : List AV × AV) : Bool := saysZ (callZ E13 (GE E13) (LZ E13) 400 [] (.func 15) p.1 .nil) p.2
noncomputable def chk (f : Nat) (args : List AV) : Bool := isT (callZ E14 (GE E14) (LZ E14) 400 [] (.func f) args .nil)
theorem chk_ok {f : Nat} {args : List AV} (h : chk f args = true) : ∃ H acc, callA E14 400 (.func f) args [] = some (.bool true, H, acc) := by
  obtain ⟨H, acc, h⟩ := isT_ok h
  obtain ⟨H1, h⟩ := z_ok rfl rfl nl14 hnp14 h
  exact ⟨H1, acc, h⟩
end Go.Proofs.PxDt
