/- The homes' known answers, with however much fuel. -/
import Derived.Test.YtpdgbkmpcahjjaaPzR2Z9
import Derived.Test.YtpdgbkmpcahjjaaPzR2K
set_option linter.unusedSimpArgs false
set_option linter.unusedVariables false
set_option maxRecDepth 100000
namespace Go.Proofs.PxR2
open Go Go.Px Go.Proofs
theorem known38 (k : Nat) : isTrueT (bodyZ E1 (CY (k + 499)) [] (k + 499) (G38 E1) [] (rep [])) = true := by kernel_rfl
theorem c38 {k : Nat} (hk : 500 ≤ k) (Y : YE) (T : TH) : CY k Y (.func 38) [] T = some (.bool true, T, ⟨[], [], false⟩) := by
  obtain ⟨j, rfl⟩ : ∃ j, k = j + 499 + 1 := ⟨k - 500, by omega⟩
  obtain ⟨T2, h⟩ := isTrueT_ok (known38 j)
  exact call_flat (k := j + 499) (zf := G38 E1) rfl rfl (fun _ => rfl) h (fun _ => rfl) rfl
end Go.Proofs.PxR2
