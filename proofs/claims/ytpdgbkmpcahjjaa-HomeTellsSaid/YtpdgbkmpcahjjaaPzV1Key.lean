/- The ring's place of a key, the code's and the reference's, by the answers of what they call. -/
import Derived.Test.YtpdgbkmpcahjjaaPzV1Once
set_option linter.unusedSimpArgs false
set_option linter.unusedVariables false
set_option maxRecDepth 100000
namespace Go.Proofs.PxR2
open Go Go.Px
theorem addS {E : Env} {s u : List Nat} (h : s.length + u.length ≤ 2000000) (c1 c2 : Bool) : binB E .add 9 c1 c2 (.str s) (.str u) = some (.str (s ++ u)) := by
  show (if s.length + u.length ≤ 35184372088832 then some (AV.str (s ++ u)) else none) = _
  rw [if_pos (by omega)]
theorem key31 {E : Env} (cy : CallYT) (Y : YE) (k : Nat) (s : List Nat) (T : TH) (x y : Int) (hs : s.length ≤ 999000)
    (h64 : ∃ a, cy Y (.func 64) [.str ([107, 101, 121] ++ s)] T = some (.int .u64 x, T, a)) (h63 : ∃ a, cy Y (.func 63) [.int .u64 x] T = some (.int .u64 y, T, a)) :
    bodyZ E cy Y k (G31 E) [.str s] T = some (.int .u64 y, T) := by
  obtain ⟨a, h64⟩ := h64
  obtain ⟨b, h63⟩ := h63
  have e0 : bodyZ E cy Y k (G31 E) [.str s] T = (G31 E).z cy Y k (finZ E [.tmp (.v 1)]) (fun _ _ _ _ => none) (finZ E [.tmp (.v 1)]) [] [.str s, .undef] T := by kernel_rfl
  refine e0.trans ?_
  unfold G31
  dsimp only
  refine zSeq_reg.trans ?_
  refine (zV_v vMv_eq).trans ?_
  refine zSeq_reg.trans ?_
  refine (zP_v (vInt_bin rfl rfl (addS (by simp; omega) _ _))).trans ?_
  refine (zCall_eq h64).trans ?_
  refine (zCall_eq h63).trans ?_
  refine (zV_v vMv_eq).trans ?_
  refine zRet_app.trans ?_
  rfl
theorem key32 {E : Env} (cy : CallYT) (Y : YE) (k : Nat) (s : List Nat) (T : TH) (x y z : Int) (hs : s.length ≤ 999000)
    (h67 : ∃ a, cy Y (.func 67) [.str ([107, 101, 121] ++ s)] T = some (.int .u64 x, T, a)) (h66 : ∃ a, cy Y (.func 66) [.int .u64 x] T = some (.int .u64 z, T, a)) (h66' : ∃ a, cy Y (.func 66) [.int .u64 z] T = some (.int .u64 y, T, a)) :
    bodyZ E cy Y k (G32 E) [.str s] T = some (.int .u64 y, T) := by
  obtain ⟨a, h67⟩ := h67
  obtain ⟨b, h66⟩ := h66
  obtain ⟨c, h66'⟩ := h66'
  have e0 : bodyZ E cy Y k (G32 E) [.str s] T = (G32 E).z cy Y k (finZ E [.tmp (.v 1)]) (fun _ _ _ _ => none) (finZ E [.tmp (.v 1)]) [] [.str s, .undef] T := by kernel_rfl
  refine e0.trans ?_
  unfold G32
  dsimp only
  refine zSeq_reg.trans ?_
  refine (zV_v vMv_eq).trans ?_
  refine zSeq_reg.trans ?_
  refine (zP_v (vInt_bin rfl rfl (addS (by simp; omega) _ _))).trans ?_
  refine (zCall_eq h67).trans ?_
  refine (zCall_eq h66).trans ?_
  refine (zCall_eq h66').trans ?_
  refine (zV_v vMv_eq).trans ?_
  refine zRet_app.trans ?_
  rfl
end Go.Proofs.PxR2
