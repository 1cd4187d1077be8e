/- What 'known' answers is told; the tables' environments. -/
import Derived.Test.YtnpphcbfainkbaaGreatPzG1G
import Derived.Test.YtnpphcbfainkbaaGreatPxG1E
import Derived.Test.YtnpphcbfainkbaaGreatPzG1T
set_option linter.unusedVariables false
set_option linter.unusedSimpArgs false
set_option maxRecDepth 100000
namespace Go.Proofs.PxG1
open Go Go.Px

def isT : Option (AV × Heap × Acc) → Bool
  | some (.bool true, _, _) => true
  | _ => false
theorem isT_ok {x : Option (AV × Heap × Acc)} (h : isT x = true) : ∃ H acc, x = some (.bool true, H, acc) := by
  unfold isT at h
  split at h
  · exact ⟨_, _, rfl⟩
  · cases h
def knownT : List AV → Option AV
  | [] => some (.bool true)
  | _ => none

theorem npT_ne {f : Nat} (h : npT f = true) {g : Nat} (hg : g ∈ toldT) : f ≠ g := fun e => by
  subst e
  unfold npT at h
  simp only [Bool.not_eq_true', List.any_eq_false] at h
  exact h f hg (Nat.beq_refl f)
theorem hnp1 : ∀ f, npT f = true → ∀ l, E1.prim f l = none := fun f h l => np1 (npT_ne h (by decide)) (npT_ne h (by decide)) l

theorem z_ok {E : Env} (hT : E.ty = Tryz.tyT) (hF : E.fn = Tryz.fnT) (hN : PrimNL E) (hnp : ∀ f, npT f = true → ∀ l, E.prim f l = none) {k f : Nat} {args : List AV} {r : AV × Heap × Acc} (h : callZ E (GE E) (LZ E) k [] (.func f) args [] = some r) : callA E k (.func f) args [] = some r :=
  callZ_ok hnp hN (ze_ok hT) (zle_ok hT) (fe_ok hF) tab_le h

theorem known6 : isT (callZ E1 (GE E1) (LZ E1) 400 [] (.func 6) [] []) = true := by decide +kernel
noncomputable def E2 : Env := E1.tell 6 knownT
theorem env2 : EnvOk Tryz.prog E2 := tell_ok env1 6 knownT
theorem fr2 : PrimFr E2 := tell_fr fr1 6 knownT
theorem nl2 : PrimNL E2 := tell_nl nl1
theorem hnp2 : ∀ f, npT f = true → ∀ l, E2.prim f l = none := fun f h l => tell_np (npT_ne h (by decide)) (hnp1 f h l)
theorem ok2 : PrimOk Tryz.prog E2 := tell_prim env1 fr1 ok1 mixed (by decide +kernel) fun args r h => by
  unfold knownT at h
  split at h
  · cases h
    obtain ⟨H', acc, h⟩ := isT_ok known6
    exact ⟨400, H', acc, z_ok rfl rfl nl1 hnp1 h⟩
  · cases h
noncomputable def E3 : Env := E2.tell 7 (memoQ T7)
noncomputable def E4 : Env := E3.tell 9 (memoQ T9)
noncomputable def E5 : Env := E4.tell 10 (memoQ T10)
theorem env3 : EnvOk Tryz.prog E3 := tell_ok env2 7 _
theorem env4 : EnvOk Tryz.prog E4 := tell_ok env3 9 _
theorem env5 : EnvOk Tryz.prog E5 := tell_ok env4 10 _
theorem fr3 : PrimFr E3 := tell_fr fr2 7 _
theorem fr4 : PrimFr E4 := tell_fr fr3 9 _
theorem fr5 : PrimFr E5 := tell_fr fr4 10 _
theorem nl3 : PrimNL E3 := tell_nl nl2
theorem nl4 : PrimNL E4 := tell_nl nl3
theorem nl5 : PrimNL E5 := tell_nl nl4
theorem hnp3 : ∀ f, npT f = true → ∀ l, E3.prim f l = none := fun f h l => tell_np (npT_ne h (by decide)) (hnp2 f h l)
theorem hnp4 : ∀ f, npT f = true → ∀ l, E4.prim f l = none := fun f h l => tell_np (npT_ne h (by decide)) (hnp3 f h l)
theorem hnp5 : ∀ f, npT f = true → ∀ l, E5.prim f l = none := fun f h l => tell_np (npT_ne h (by decide)) (hnp4 f h l)
noncomputable def chk7 (p : List AV × AV) : Bool := saysR (callZ E2 (GE E2) (LZ E2) 400 [] (.func 7) p.1 []) p.2
noncomputable def chk9 (p : List AV × AV) : Bool := saysR (callZ E3 (GE E3) (LZ E3) 400 [] (.func 9) p.1 []) p.2
noncomputable def chk10 (p : List AV × AV) : Bool := saysR (callZ E4 (GE E4) (LZ E4) 400 [] (.func 10) p.1 []) p.2
noncomputable def chk (f : Nat) (args : List AV) : Bool := isT (callZ E5 (GE E5) (LZ E5) 400 [] (.func f) args [])
theorem chk_ok {f : Nat} {args : List AV} (h : chk f args = true) : ∃ H acc, callA E5 400 (.func f) args [] = some (.bool true, H, acc) := by
  obtain ⟨H, acc, h⟩ := isT_ok h
  exact ⟨H, acc, z_ok rfl rfl nl5 hnp5 h⟩
end Go.Proofs.PxG1
