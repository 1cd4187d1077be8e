/- The ring's known places. -/
import Derived.Test.YtpdgbkmpcahjjaaPzR2W9
set_option linter.unusedSimpArgs false
set_option linter.unusedVariables false
set_option maxRecDepth 100000
namespace Go.Proofs.PxR2
open Go Go.Px Go.Proofs

def isTrueT (x : Ans) : Bool := match x with
  | some (.bool true, _) => true
  | _ => false
theorem isTrueT_ok {x : Ans} (h : isTrueT x = true) : ∃ T, x = some (.bool true, T) := by
  unfold isTrueT at h
  split at h
  · exact ⟨_, rfl⟩
  · cases h
theorem known28 : isTrueT (bodyZ E1 (CY 499) [] 499 (G28 E1) [] (rep [])) = true := by decide +kernel
theorem c28 (Y : YE) (T : TH) : CY 500 Y (.func 28) [] T = some (.bool true, T, ⟨[], [], false⟩) := by
  obtain ⟨T2, h⟩ := isTrueT_ok known28
  exact call_flat (k := 499) (zf := G28 E1) rfl rfl (fun _ => rfl) h (fun _ => rfl) rfl
end Go.Proofs.PxR2
