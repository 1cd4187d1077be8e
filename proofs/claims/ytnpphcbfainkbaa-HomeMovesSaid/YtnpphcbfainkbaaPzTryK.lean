/- What 'known' answers is told; the check of one input. -/
import Derived.Test.YtnpphcbfainkbaaPzTryG
import Derived.Test.YtnpphcbfainkbaaPxTryE
set_option linter.unusedVariables false
set_option linter.unusedSimpArgs false
namespace Go.Proofs.PxTry
open Go Go.Px

def isT : Option (AV × Heap × Acc) → Bool
  | some (.bool true, _, _) => true
  | _ => false
theorem isT_ok {x : Option (AV × Heap × Acc)} (h : isT x = true) : ∃ H acc, x = some (.bool true, H, acc) := by
  unfold isT at h
  split at h
  · exact ⟨_, _, rfl⟩
  · cases h
def knownT : List AV → Option AV
  | [] => some (.bool true)
  | _ => none

theorem npT_ne {f : Nat} (h : npT f = true) {g : Nat} (hg : g ∈ toldT) : f ≠ g := fun e => by
  subst e
  unfold npT at h
  simp only [Bool.not_eq_true', List.any_eq_false] at h
  exact h f hg (Nat.beq_refl f)
theorem hnp1 : ∀ f, npT f = true → ∀ l, E1.prim f l = none := fun f h l => np1 (npT_ne h (by decide)) (npT_ne h (by decide)) (npT_ne h (by decide)) (npT_ne h (by decide)) (npT_ne h (by decide)) l

theorem z_ok {E : Env} (hT : E.ty = Try.tyT) (hF : E.fn = Try.fnT) (hN : PrimNL E) (hnp : ∀ f, npT f = true → ∀ l, E.prim f l = none) {k f : Nat} {args : List AV} {r : AV × Heap × Acc} (h : callZ E (GE E) (LZ E) k [] (.func f) args [] = some r) : callA E k (.func f) args [] = some r :=
  callZ_ok hnp hN (ze_ok hT) (zle_ok hT) (fe_ok hF) tab_le h

theorem known40 : isT (callZ E1 (GE E1) (LZ E1) 400 [] (.func 40) [] []) = true := by decide +kernel
noncomputable def E2 : Env := E1.tell 40 knownT
theorem env2 : EnvOk Try.prog E2 := tell_ok env1 40 knownT
theorem fr2 : PrimFr E2 := tell_fr fr1 40 knownT
theorem nl2 : PrimNL E2 := tell_nl nl1
theorem hnp2 : ∀ f, npT f = true → ∀ l, E2.prim f l = none := fun f h l => tell_np (npT_ne h (by decide)) (hnp1 f h l)
theorem ok2 : PrimOk Try.prog E2 := tell_prim env1 fr1 ok1 mixed (by decide +kernel) fun args r h => by
  unfold knownT at h
  split at h
  · cases h
    obtain ⟨H', acc, h⟩ := isT_ok known40
    exact ⟨400, H', acc, z_ok rfl rfl nl1 hnp1 h⟩
  · cases h
noncomputable def chk (f : Nat) (args : List AV) : Bool := isT (callZ E2 (GE E2) (LZ E2) 400 [] (.func f) args [])
theorem chk_ok {f : Nat} {args : List AV} (h : chk f args = true) : ∃ H acc, callA E2 400 (.func f) args [] = some (.bool true, H, acc) := by
  obtain ⟨H, acc, h⟩ := isT_ok h
  exact ⟨H, acc, z_ok rfl rfl nl2 hnp2 h⟩
end Go.Proofs.PxTry
