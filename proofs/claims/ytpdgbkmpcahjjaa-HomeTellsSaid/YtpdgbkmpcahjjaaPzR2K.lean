/- The ring's known places. -/
import Derived.Test.YtpdgbkmpcahjjaaPzR2W9
set_option linter.unusedSimpArgs false
set_option linter.unusedVariables false
set_option maxRecDepth 100000
namespace Go.Proofs.PxR2
open Go Go.Px Go.Proofs
def isTrueT (x : Ans) : Bool := match x with
  | some (.bool true, _) => true
  | _ => false
theorem isTrueT_ok {x : Ans} (h : isTrueT x = true) : ∃ T, x = some (.bool true, T) := by
  unfold isTrueT at h
  split at h
  · exact ⟨_, rfl⟩
  · cases h
end Go.Proofs.PxR2
