/- A number's mark: what 65 answers. -/
import Derived.Test.YtpdgbkmpcahjjaaPzV1Key
set_option linter.unusedSimpArgs false
set_option linter.unusedVariables false
set_option maxRecDepth 100000
namespace Go.Proofs.PxR2
open Go Go.Px

theorem most_l {E : Env} {L V : List AV} {H : Heap} {a b : O} {n : Nat} (ha : gO L V a = .int .i64 n) (hb : gO L V b = .int .i64 0) : evalFA E L V H (.most true [a, b]) = some (.val (.int .i64 n), Acc.none) := by
  simp [evalFA, mostA, most2, ha, hb]
  omega

theorem mark65 {E : Env} (cy : CallYT) (Y : YE) (k : Nat) (n : Nat) (hn : n < 9223372036854775808) (H H' : Heap) (s : List Nat)
    (h81 : ∃ a, cy Y (.func 81) [.int .u64 n] (rep H) = some (.str s, rep H', a)) :
    bodyZ E cy Y k (G65 E) [.int .i64 n] (rep H) = some (.str s, rep H') := by
  obtain ⟨a, h81⟩ := h81
  have hw : IntKind.u64.wrap (n : Int) = n := u64_wrap (by omega)
  have e0 : bodyZ E cy Y k (G65 E) [.int .i64 n] (rep H) = (G65 E).z cy Y k (finZ E [.tmp (.v 1)]) (fun _ _ _ _ => none) (finZ E [.tmp (.v 1)]) [] [.int .i64 n, .undef] (rep H) := by kernel_rfl
  refine e0.trans ?_
  unfold G65
  dsimp only
  refine zSeq_reg.trans ?_
  refine (zV_v vMv_eq).trans ?_
  refine zSeq_reg.trans ?_
  refine (zStep_valH rfl (most_l rfl rfl)).trans ?_
  refine (zP_v (vConv_eq rfl)).trans ?_
  rw [hw]
  refine (zCall_eq h81).trans ?_
  refine (zV_v vMv_eq).trans ?_
  refine zRet_app.trans ?_
  rfl

theorem node29 {E : Env} (cy : CallYT) (Y : YE) (k : Nat) (v0 v1 : AV) (H H1 H2 : Heap) (s1 s2 : List Nat) (x y : Int) (hs : s1.length + s2.length ≤ 1000)
    (h65 : ∃ a, cy Y (.func 65) [v0] (rep H) = some (.str s1, rep H1, a)) (h65' : ∃ a, cy Y (.func 65) [v1] (rep H1) = some (.str s2, rep H2, a))
    (h64 : ∃ a, cy Y (.func 64) [.str (([110, 111, 100, 101] ++ s1) ++ s2)] (rep H2) = some (.int .u64 x, rep H2, a)) (h63 : ∃ a, cy Y (.func 63) [.int .u64 x] (rep H2) = some (.int .u64 y, rep H2, a)) :
    bodyZ E cy Y k (G29 E) [v0, v1] (rep H) = some (.int .u64 y, rep H2) := by
  obtain ⟨a, h65⟩ := h65
  obtain ⟨b, h65'⟩ := h65'
  obtain ⟨c, h64⟩ := h64
  obtain ⟨d, h63⟩ := h63
  have e0 : bodyZ E cy Y k (G29 E) [v0, v1] (rep H) = (G29 E).z cy Y k (finZ E [.tmp (.v 2)]) (fun _ _ _ _ => none) (finZ E [.tmp (.v 2)]) [] [v0, v1, .undef] (rep H) := by kernel_rfl
  refine e0.trans ?_
  unfold G29
  dsimp only
  refine zSeq_reg.trans ?_
  refine (zV_v vMv_eq).trans ?_
  refine zSeq_reg.trans ?_
  refine (zCall_eq h65).trans ?_
  refine (zP_v (vInt_bin rfl rfl (addS (by simp; omega) _ _))).trans ?_
  refine (zCall_eq h65').trans ?_
  refine (zP_v (vInt_bin rfl rfl (addS (by simp; omega) _ _))).trans ?_
  refine (zCall_eq h64).trans ?_
  refine (zCall_eq h63).trans ?_
  refine (zV_v vMv_eq).trans ?_
  refine zRet_app.trans ?_
  rfl

theorem most_r {E : Env} {L V : List AV} {H : Heap} {a b : O} {n : Nat} (ha : gO L V a = .int .i64 0) (hb : gO L V b = .int .i64 n) : evalFA E L V H (.most true [a, b]) = some (.val (.int .i64 n), Acc.none) := by
  simp [evalFA, mostA, most2, ha, hb]
  try omega

theorem node30 {E : Env} (cy : CallYT) (Y : YE) (k : Nat) (n m : Nat) (hn : n < 9223372036854775808) (hm : m < 9223372036854775808) (H H1 H2 : Heap) (s1 s2 : List Nat) (x y z : Int) (hs : s1.length + s2.length ≤ 1000)
    (h68 : ∃ a, cy Y (.func 68) [.int .u64 n] (rep H) = some (.str s1, rep H1, a)) (h68' : ∃ a, cy Y (.func 68) [.int .u64 m] (rep H1) = some (.str s2, rep H2, a))
    (h67 : ∃ a, cy Y (.func 67) [.str (([110, 111, 100, 101] ++ s1) ++ s2)] (rep H2) = some (.int .u64 x, rep H2, a)) (h66 : ∃ a, cy Y (.func 66) [.int .u64 x] (rep H2) = some (.int .u64 z, rep H2, a)) (h66' : ∃ a, cy Y (.func 66) [.int .u64 z] (rep H2) = some (.int .u64 y, rep H2, a)) :
    bodyZ E cy Y k (G30 E) [.int .i64 n, .int .i64 m] (rep H) = some (.int .u64 y, rep H2) := by
  obtain ⟨a, h68⟩ := h68
  obtain ⟨b, h68'⟩ := h68'
  obtain ⟨c, h67⟩ := h67
  obtain ⟨d, h66⟩ := h66
  obtain ⟨d', h66'⟩ := h66'
  have hw : IntKind.u64.wrap (n : Int) = n := u64_wrap (by omega)
  have hv : IntKind.u64.wrap (m : Int) = m := u64_wrap (by omega)
  have e0 : bodyZ E cy Y k (G30 E) [.int .i64 n, .int .i64 m] (rep H) = (G30 E).z cy Y k (finZ E [.tmp (.v 2)]) (fun _ _ _ _ => none) (finZ E [.tmp (.v 2)]) [] [.int .i64 n, .int .i64 m, .undef] (rep H) := by kernel_rfl
  refine e0.trans ?_
  unfold G30
  dsimp only
  refine zSeq_reg.trans ?_
  refine (zV_v vMv_eq).trans ?_
  refine zSeq_reg.trans ?_
  refine (zStep_valH rfl (most_r rfl rfl)).trans ?_
  refine (zP_v (vConv_eq rfl)).trans ?_
  rw [hw]
  refine (zCall_eq h68).trans ?_
  refine (zP_v (vInt_bin rfl rfl (addS (by simp; omega) _ _))).trans ?_
  refine (zStep_valH rfl (most_r rfl rfl)).trans ?_
  refine (zP_v (vConv_eq rfl)).trans ?_
  rw [hv]
  refine (zCall_eq h68').trans ?_
  refine (zP_v (vInt_bin rfl rfl (addS (by simp; omega) _ _))).trans ?_
  refine (zCall_eq h67).trans ?_
  refine (zCall_eq h66).trans ?_
  refine (zCall_eq h66').trans ?_
  refine (zV_v vMv_eq).trans ?_
  refine zRet_app.trans ?_
  rfl
end Go.Proofs.PxR2
