/- The environments with their tables; the checks. -/
import Derived.Test.YtdkgahnccefagaaGreatDoorPzDhG
import Derived.Test.YtdkgahnccefagaaGreatDoorPxDhE
import Derived.Test.YtdkgahnccefagaaGreatDoorPzDhT
set_option linter.unusedVariables false
set_option linter.unusedSimpArgs false
set_option maxRecDepth 100000
namespace Go.Proofs.PxDh
open Go Go.Px


def isT : Option (AV × TH × Acc) → Bool
  | some (.bool true, _, _) => true
  | _ => false
theorem isT_ok {x : Option (AV × TH × Acc)} (h : isT x = true) : ∃ H acc, x = some (.bool true, H, acc) := by
  unfold isT at h
  split at h
  · exact ⟨_, _, rfl⟩
  · cases h
def saysZ (x : Option (AV × TH × Acc)) (r : AV) : Bool := match x with
  | some (v, _, _) => eqV v r
  | none => false
theorem saysZ_ok {x : Option (AV × TH × Acc)} {r : AV} (h : saysZ x r = true) : ∃ H acc, x = some (r, H, acc) := by
  unfold saysZ at h
  split at h
  · rw [eqV_ok h]; exact ⟨_, _, rfl⟩
  · cases h
theorem npT_ne {f : Nat} (h : npT f = true) {g : Nat} (hg : g ∈ toldT) : f ≠ g := fun e => by
  subst e
  unfold npT at h
  simp only [Bool.not_eq_true', List.any_eq_false] at h
  exact h f hg (Nat.beq_refl f)
theorem hnp1 : ∀ f, npT f = true → ∀ l, E1.prim f l = none := fun f h l => np1 (npT_ne h (by decide)) (npT_ne h (by decide)) (npT_ne h (by decide)) (npT_ne h (by decide)) (npT_ne h (by decide)) (npT_ne h (by decide)) (npT_ne h (by decide)) (npT_ne h (by decide)) l
theorem z_ok {E : Env} (hT : E.ty = Tryz.tyT) (hF : E.fn = Tryz.fnT) (hN : PrimNL E) (hnp : ∀ f, npT f = true → ∀ l, E.prim f l = none) {k f : Nat} {args : List AV} {r : AV × TH × Acc} (h : callZ E (GE E) (LZ E) k [] (.func f) args .nil = some r) : ∃ H, callA E k (.func f) args [] = some (r.1, H, r.2.2) :=
  callZ_ok hnp hN (ze_ok hT) (zle_ok hT) (fe_ok hF) tab_le h

noncomputable def E2 : Env := E1.tell 48 (memoQ T48)
theorem env2 : EnvOk Tryz.prog E2 := tell_ok env1 48 _
theorem fr2 : PrimFr E2 := tell_fr fr1 48 _
theorem nl2 : PrimNL E2 := tell_nl nl1
theorem hnp2 : ∀ f, npT f = true → ∀ l, E2.prim f l = none := fun f h l => tell_np (npT_ne h (by decide)) (hnp1 f h l)
noncomputable def chk48 (p : List AV × AV) : Bool := saysZ (callZ E1 (GE E1) (LZ E1) 400 [] (.func 48) p.1 .nil) p.2
noncomputable def E3 : Env := E2.tell 75 (memoQ T75)
theorem env3 : EnvOk Tryz.prog E3 := tell_ok env2 75 _
theorem fr3 : PrimFr E3 := tell_fr fr2 75 _
theorem nl3 : PrimNL E3 := tell_nl nl2
theorem hnp3 : ∀ f, npT f = true → ∀ l, E3.prim f l = none := fun f h l => tell_np (npT_ne h (by decide)) (hnp2 f h l)
noncomputable def chk75 (p : List AV × AV) : Bool := saysZ (callZ E2 (GE E2) (LZ E2) 400 [] (.func 75) p.1 .nil) p.2
noncomputable def E4 : Env := E3.tell 76 (memoQ T76)
theorem env4 : EnvOk Tryz.prog E4 := tell_ok env3 76 _
theorem fr4 : PrimFr E4 := tell_fr fr3 76 _
theorem nl4 : PrimNL E4 := tell_nl nl3
theorem hnp4 : ∀ f, npT f = true → ∀ l, E4.prim f l = none := fun f h l => tell_np (npT_ne h (by decide)) (hnp3 f h l)
noncomputable def chk76 (p : List AV × AV) : Bool := saysZ (callZ E3 (GE E3) (LZ E3) 400 [] (.func 76) p.1 .nil) p.2
noncomputable def E5 : Env := E4.tell 136 (memoQ T136)
theorem env5 : EnvOk Tryz.prog E5 := tell_ok env4 136 _
theorem fr5 : PrimFr E5 := tell_fr fr4 136 _
theorem nl5 : PrimNL E5 := tell_nl nl4
theorem hnp5 : ∀ f, npT f = true → ∀ l, E5.prim f l = none := fun f h l => tell_np (npT_ne h (by decide)) (hnp4 f h l)
noncomputable def chk136 (p : List AV × AV) : Bool := saysZ (callZ E4 (GE E4) (LZ E4) 400 [] (.func 136) p.1 .nil) p.2
noncomputable def E6 : Env := E5.tell 137 (memoQ T137)
theorem env6 : EnvOk Tryz.prog E6 := tell_ok env5 137 _
theorem fr6 : PrimFr E6 := tell_fr fr5 137 _
theorem nl6 : PrimNL E6 := tell_nl nl5
theorem hnp6 : ∀ f, npT f = true → ∀ l, E6.prim f l = none := fun f h l => tell_np (npT_ne h (by decide)) (hnp5 f h l)
noncomputable def chk137 (p : List AV × AV) : Bool := saysZ (callZ E5 (GE E5) (LZ E5) 400 [] (.func 137) p.1 .nil) p.2
noncomputable def E7 : Env := E6.tell 77 (memoQ T77)
theorem env7 : EnvOk Tryz.prog E7 := tell_ok env6 77 _
theorem fr7 : PrimFr E7 := tell_fr fr6 77 _
theorem nl7 : PrimNL E7 := tell_nl nl6
theorem hnp7 : ∀ f, npT f = true → ∀ l, E7.prim f l = none := fun f h l => tell_np (npT_ne h (by decide)) (hnp6 f h l)
noncomputable def chk77 (p : List AV × AV) : Bool := saysZ (callZ E6 (GE E6) (LZ E6) 400 [] (.func 77) p.1 .nil) p.2
noncomputable def E8 : Env := E7.tell 138 (memoQ T138)
theorem env8 : EnvOk Tryz.prog E8 := tell_ok env7 138 _
theorem fr8 : PrimFr E8 := tell_fr fr7 138 _
theorem nl8 : PrimNL E8 := tell_nl nl7
theorem hnp8 : ∀ f, npT f = true → ∀ l, E8.prim f l = none := fun f h l => tell_np (npT_ne h (by decide)) (hnp7 f h l)
noncomputable def chk138 (p : List AV × AV) : Bool := saysZ (callZ E7 (GE E7) (LZ E7) 400 [] (.func 138) p.1 .nil) p.2
noncomputable def E9 : Env := E8.tell 78 (memoQ T78)
theorem env9 : EnvOk Tryz.prog E9 := tell_ok env8 78 _
theorem fr9 : PrimFr E9 := tell_fr fr8 78 _
theorem nl9 : PrimNL E9 := tell_nl nl8
theorem hnp9 : ∀ f, npT f = true → ∀ l, E9.prim f l = none := fun f h l => tell_np (npT_ne h (by decide)) (hnp8 f h l)
noncomputable def chk78 (p : List AV × AV) : Bool := saysZ (callZ E8 (GE E8) (LZ E8) 400 [] (.func 78) p.1 .nil) p.2
noncomputable def E10 : Env := E9.tell 80 (memoQ T80)
theorem env10 : EnvOk Tryz.prog E10 := tell_ok env9 80 _
theorem fr10 : PrimFr E10 := tell_fr fr9 80 _
theorem nl10 : PrimNL E10 := tell_nl nl9
theorem hnp10 : ∀ f, npT f = true → ∀ l, E10.prim f l = none := fun f h l => tell_np (npT_ne h (by decide)) (hnp9 f h l)
noncomputable def chk80 (p : List AV × AV) : Bool := saysZ (callZ E9 (GE E9) (LZ E9) 400 [] (.func 80) p.1 .nil) p.2
noncomputable def E11 : Env := E10.tell 81 (memoQ T81)
theorem env11 : EnvOk Tryz.prog E11 := tell_ok env10 81 _
theorem fr11 : PrimFr E11 := tell_fr fr10 81 _
theorem nl11 : PrimNL E11 := tell_nl nl10
theorem hnp11 : ∀ f, npT f = true → ∀ l, E11.prim f l = none := fun f h l => tell_np (npT_ne h (by decide)) (hnp10 f h l)
noncomputable def chk81 (p : List AV × AV) : Bool := saysZ (callZ E10 (GE E10) (LZ E10) 400 [] (.func 81) p.1 .nil) p.2
noncomputable def E12 : Env := E11.tell 82 (memoQ T82)
theorem env12 : EnvOk Tryz.prog E12 := tell_ok env11 82 _
theorem fr12 : PrimFr E12 := tell_fr fr11 82 _
theorem nl12 : PrimNL E12 := tell_nl nl11
theorem hnp12 : ∀ f, npT f = true → ∀ l, E12.prim f l = none := fun f h l => tell_np (npT_ne h (by decide)) (hnp11 f h l)
noncomputable def chk82 (p : List AV × AV) : Bool := saysZ (callZ E11 (GE E11) (LZ E11) 400 [] (.func 82) p.1 .nil) p.2
noncomputable def E13 : Env := E12.tell 95 (memoQ T95)
theorem env13 : EnvOk Tryz.prog E13 := tell_ok env12 95 _
theorem fr13 : PrimFr E13 := tell_fr fr12 95 _
theorem nl13 : PrimNL E13 := tell_nl nl12
theorem hnp13 : ∀ f, npT f = true → ∀ l, E13.prim f l = none := fun f h l => tell_np (npT_ne h (by decide)) (hnp12 f h l)
noncomputable def chk95 (p : List AV × AV) : Bool := saysZ (callZ E12 (GE E12) (LZ E12) 400 [] (.func 95) p.1 .nil) p.2
noncomputable def E14 : Env := E13.tell 118 (memoQ T118)
theorem env14 : EnvOk Tryz.prog E14 := tell_ok env13 118 _
theorem fr14 : PrimFr E14 := tell_fr fr13 118 _
theorem nl14 : PrimNL E14 := tell_nl nl13
theorem hnp14 : ∀ f, npT f = true → ∀ l, E14.prim f l = none := fun f h l => tell_np (npT_ne h (by decide)) (hnp13 f h l)
noncomputable def chk118 (p : List AV × AV) : Bool := saysZ (callZ E13 (GE E13) (LZ E13) 400 [] (.func 118) p.1 .nil) p.2
noncomputable def E15 : Env := E14.tell 141 (memoQ T141)
theorem env15 : EnvOk Tryz.prog E15 := tell_ok env14 141 _
theorem fr15 : PrimFr E15 := tell_fr fr14 141 _
theorem nl15 : PrimNL E15 := tell_nl nl14
theorem hnp15 : ∀ f, npT f = true → ∀ l, E15.prim f l = none := fun f h l => tell_np (npT_ne h (by decide)) (hnp14 f h l)
noncomputable def chk141 (p : List AV × AV) : Bool := saysZ (callZ E14 (GE E14) (LZ E14) 400 [] (.func 141) p.1 .nil) p.2
noncomputable def E16 : Env := E15.tell 147 (memoQ T147)
theorem env16 : EnvOk Tryz.prog E16 := tell_ok env15 147 _
theorem fr16 : PrimFr E16 := tell_fr fr15 147 _
theorem nl16 : PrimNL E16 := tell_nl nl15
theorem hnp16 : ∀ f, npT f = true → ∀ l, E16.prim f l = none := fun f h l => tell_np (npT_ne h (by decide)) (hnp15 f h l)
noncomputable def chk147 (p : List AV × AV) : Bool := saysZ (callZ E15 (GE E15) (LZ E15) 400 [] (.func 147) p.1 .nil) p.2
noncomputable def E17 : Env := E16.tell 183 (memoQ T183)
theorem env17 : EnvOk Tryz.prog E17 := tell_ok env16 183 _
theorem fr17 : PrimFr E17 := tell_fr fr16 183 _
theorem nl17 : PrimNL E17 := tell_nl nl16
theorem hnp17 : ∀ f, npT f = true → ∀ l, E17.prim f l = none := fun f h l => tell_np (npT_ne h (by decide)) (hnp16 f h l)
noncomputable def chk183 (p : List AV × AV) : Bool := saysZ (callZ E16 (GE E16) (LZ E16) 400 [] (.func 183) p.1 .nil) p.2
noncomputable def E18 : Env := E17.tell 181 (memoQ T181)
theorem env18 : EnvOk Tryz.prog E18 := tell_ok env17 181 _
theorem fr18 : PrimFr E18 := tell_fr fr17 181 _
theorem nl18 : PrimNL E18 := tell_nl nl17
theorem hnp18 : ∀ f, npT f = true → ∀ l, E18.prim f l = none := fun f h l => tell_np (npT_ne h (by decide)) (hnp17 f h l)
noncomputable def chk181 (p : List AV × AV) : Bool := saysZ (callZ E17 (GE E17) (LZ E17) 400 [] (.func 181) p.1 .nil) p.2
noncomputable def E19 : Env := E18.tell 6 (memoQ T6)
theorem env19 : EnvOk Tryz.prog E19 := tell_ok env18 6 _
theorem fr19 : PrimFr E19 := tell_fr fr18 6 _
theorem nl19 : PrimNL E19 := tell_nl nl18
theorem hnp19 : ∀ f, npT f = true → ∀ l, E19.prim f l = none := fun f h l => tell_np (npT_ne h (by decide)) (hnp18 f h l)
noncomputable def chk6 (p : List AV × AV) : Bool := saysZ (callZ E18 (GE E18) (LZ E18) 400 [] (.func 6) p.1 .nil) p.2
noncomputable def chk (f : Nat) (args : List AV) : Bool := isT (callZ E19 (GE E19) (LZ E19) 400 [] (.func f) args .nil)
theorem chk_ok {f : Nat} {args : List AV} (h : chk f args = true) : ∃ H acc, callA E19 400 (.func f) args [] = some (.bool true, H, acc) := by
  obtain ⟨H, acc, h⟩ := isT_ok h
  obtain ⟨H1, h⟩ := z_ok rfl rfl nl19 hnp19 h
  exact ⟨H1, acc, h⟩
end Go.Proofs.PxDh
