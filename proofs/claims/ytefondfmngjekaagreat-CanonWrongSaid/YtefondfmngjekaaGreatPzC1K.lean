/- What 'known' answers is told; the check of one input. -/
import Derived.Test.YtefondfmngjekaaGreatPzC1G
import Derived.Test.YtefondfmngjekaaGreatPxC1E
set_option linter.unusedVariables false
set_option linter.unusedSimpArgs false
set_option maxRecDepth 100000
namespace Go.Proofs.PxC1
open Go Go.Px

def isT : Option (AV × TH × Acc) → Bool
  | some (.bool true, _, _) => true
  | _ => false
theorem isT_ok {x : Option (AV × TH × Acc)} (h : isT x = true) : ∃ H acc, x = some (.bool true, H, acc) := by
  unfold isT at h
  split at h
  · exact ⟨_, _, rfl⟩
  · cases h
def knownT : List AV → Option AV
  | [] => some (.bool true)
  | _ => none

theorem npT_ne {f : Nat} (h : npT f = true) {g : Nat} (hg : g ∈ toldT) : f ≠ g := fun e => by
  subst e
  unfold npT at h
  simp only [Bool.not_eq_true', List.any_eq_false] at h
  exact h f hg (Nat.beq_refl f)
theorem hnp1 : ∀ f, npT f = true → ∀ l, E1.prim f l = none := fun f h l => np1 (npT_ne h (by decide)) (npT_ne h (by decide)) (npT_ne h (by decide)) (npT_ne h (by decide)) l

theorem z_ok {E : Env} (hT : E.ty = Tryz.tyT) (hF : E.fn = Tryz.fnT) (hN : PrimNL E) (hnp : ∀ f, npT f = true → ∀ l, E.prim f l = none) {k f : Nat} {args : List AV} {r : AV × TH × Acc} (h : callZ E (GE E) (LZ E) k [] (.func f) args .nil = some r) : ∃ H, callA E k (.func f) args [] = some (r.1, H, r.2.2) :=
  callZ_ok hnp hN (ze_ok hT) (zle_ok hT) (fe_ok hF) tab_le h

theorem knownF : isT (callZ E1 (GE E1) (LZ E1) 400 [] (.func 4) [] .nil) = true := by decide +kernel
noncomputable def E2 : Env := E1.tell 4 knownT
theorem env2 : EnvOk Tryz.prog E2 := tell_ok env1 4 knownT
theorem fr2 : PrimFr E2 := tell_fr fr1 4 knownT
theorem nl2 : PrimNL E2 := tell_nl nl1
theorem hnp2 : ∀ f, npT f = true → ∀ l, E2.prim f l = none := fun f h l => tell_np (npT_ne h (by decide)) (hnp1 f h l)
theorem ok2 : PrimOk Tryz.prog E2 := tell_prim env1 fr1 ok1 mixed (by decide +kernel) fun args r h => by
  unfold knownT at h
  split at h
  · cases h
    obtain ⟨H', acc, h⟩ := isT_ok knownF
    obtain ⟨H1, h⟩ := z_ok rfl rfl nl1 hnp1 h
    exact ⟨400, H1, acc, h⟩
  · cases h
noncomputable def chk (f : Nat) (args : List AV) : Bool := isT (callZ E2 (GE E2) (LZ E2) 400 [] (.func f) args .nil)
theorem chk_ok {f : Nat} {args : List AV} (h : chk f args = true) : ∃ H acc, callA E2 400 (.func f) args [] = some (.bool true, H, acc) := by
  obtain ⟨H, acc, h⟩ := isT_ok h
  obtain ⟨H1, h⟩ := z_ok rfl rfl nl2 hnp2 h
  exact ⟨H1, acc, h⟩
end Go.Proofs.PxC1
