/- What 'known' answers is told. -/
import Derived.Test.YtnpphcbfainkbaaPyTryE
namespace Go.Proofs.PxTry
open Go Go.Px

def isT : Option (AV × Heap × Acc) → Bool
  | some (.bool true, _, _) => true
  | _ => false
theorem isT_ok {x : Option (AV × Heap × Acc)} (h : isT x = true) : ∃ H acc, x = some (.bool true, H, acc) := by
  unfold isT at h
  split at h
  · exact ⟨_, _, rfl⟩
  · cases h

def knownT : List AV → Option AV
  | [] => some (.bool true)
  | _ => none
noncomputable def E2 : Env := E1.tell 11 knownT
theorem known_at : isT (callF E1 FE 400 (.func 11) [] []) = true := by decide +kernel
theorem env2 : EnvOk Try.prog E2 := tell_ok env1 11 knownT
theorem fr2 : PrimFr E2 := tell_fr fr1 11 knownT
theorem ok2 : PrimOk Try.prog E2 := tell_prim env1 fr1 ok1 mixed (by decide +kernel) fun args r h => by
  unfold knownT at h
  split at h
  · cases h
    obtain ⟨H', acc, h⟩ := isT_ok known_at
    exact ⟨400, H', acc, callF_ok (fe_ok rfl) 400 _ _ _ _ h⟩
  · cases h

noncomputable def chk (f : Nat) (args : List AV) : Bool := isT (callF E2 FE 400 (.func f) args [])
theorem chk_ok {f : Nat} {args : List AV} (h : chk f args = true) : ∃ H acc, callA E2 400 (.func f) args [] = some (.bool true, H, acc) := by
  obtain ⟨H, acc, h⟩ := isT_ok h
  exact ⟨H, acc, callF_ok (fe_ok rfl) 400 _ _ _ _ h⟩
end Go.Proofs.PxTry
