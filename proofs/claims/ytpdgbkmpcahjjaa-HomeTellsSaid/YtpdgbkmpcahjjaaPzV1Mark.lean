/- A number's mark: what 65 answers. -/
import Derived.Test.YtpdgbkmpcahjjaaPzV1Key
set_option linter.unusedSimpArgs false
set_option linter.unusedVariables false
set_option maxRecDepth 100000
namespace Go.Proofs.PxR2
open Go Go.Px
theorem node29 {E : Env} (cy : CallYT) (Y : YE) (k : Nat) (v0 v1 : AV) (H H1 H2 : Heap) (s1 s2 : List Nat) (x y : Int) (hs : s1.length + s2.length ≤ 1000)
    (h65 : ∃ a, cy Y (.func 65) [v0] (rep H) = some (.str s1, rep H1, a)) (h65' : ∃ a, cy Y (.func 65) [v1] (rep H1) = some (.str s2, rep H2, a))
    (h64 : ∃ a, cy Y (.func 64) [.str (([110, 111, 100, 101] ++ s1) ++ s2)] (rep H2) = some (.int .u64 x, rep H2, a)) (h63 : ∃ a, cy Y (.func 63) [.int .u64 x] (rep H2) = some (.int .u64 y, rep H2, a)) :
    bodyZ E cy Y k (G29 E) [v0, v1] (rep H) = some (.int .u64 y, rep H2) := by
  obtain ⟨a, h65⟩ := h65
  obtain ⟨b, h65'⟩ := h65'
  obtain ⟨c, h64⟩ := h64
  obtain ⟨d, h63⟩ := h63
  have e0 : bodyZ E cy Y k (G29 E) [v0, v1] (rep H) = (G29 E).z cy Y k (finZ E [.tmp (.v 2)]) (fun _ _ _ _ => none) (finZ E [.tmp (.v 2)]) [] [v0, v1, .undef] (rep H) := by kernel_rfl
  refine e0.trans ?_
  unfold G29
  dsimp only
  refine zSeq_reg.trans ?_
  refine (zV_v vMv_eq).trans ?_
  refine zSeq_reg.trans ?_
  refine (zCall_eq h65).trans ?_
  refine (zP_v (vInt_bin rfl rfl (addS (by simp; omega) _ _))).trans ?_
  refine (zCall_eq h65').trans ?_
  refine (zP_v (vInt_bin rfl rfl (addS (by simp; omega) _ _))).trans ?_
  refine (zCall_eq h64).trans ?_
  refine (zCall_eq h63).trans ?_
  refine (zV_v vMv_eq).trans ?_
  refine zRet_app.trans ?_
  rfl
end Go.Proofs.PxR2
