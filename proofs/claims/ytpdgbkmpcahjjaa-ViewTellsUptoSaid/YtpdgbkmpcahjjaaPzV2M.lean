/- Views: the same ones; the first ones; which are at the top (walks by zauto). -/
import Derived.Test.YtpdgbkmpcahjjaaPzV2L
set_option linter.unusedVariables false
set_option linter.unusedSimpArgs false
set_option maxRecDepth 100000
namespace Go.Proofs.PxV2
open Go Go.Px Go.Proofs
def sameW (a b : VwT) : Bool := decide (a.M = b.M) && decide (a.C = b.C)
theorem fz_two (a b : VwT) (g : Nat → Option AO) : fzL (fzG E1 g fzDeep) [a.av, b.av] = some ([a.av, b.av], []) := rfl
theorem c12 {k : Nat} (Y : YE) (T : TH) (a b : VwT) (hk : a.M.length + a.C.length + 4 ≤ k) (hm : a.M.length ≤ 9223372036854775807) (hc : a.C.length ≤ 9223372036854775807) : CY k Y (.func 12) [a.av, b.av] T = some (.bool (sameW a b), T, ⟨[], [], false⟩) := by
 obtain ⟨k, rfl⟩ : ∃ j, k = j + 1 := ⟨k - 1, by omega⟩
 refine call_go (zf := G12 E1) rfl rfl (fz_two a b) (fun _ => rfl) ?_
 unfold G12 sameW
 dsimp only
 refine zpR <| st (sV_new (ev_box rfl rfl ⟨_, rfl⟩)) <| st (sV_new (ev_box rfl rfl ⟨_, rfl⟩)) <| zpV <| zpR <| st (zP_v (vFieldAddr_loc rfl)) <| st (zL_v (wL_loc rfl rfl rfl rfl)) <| st (zP_v (vFieldAddr_loc rfl)) <| st (zL_v (wL_loc rfl rfl rfl rfl)) <| st (cP_call rfl (c47 _ _ _ _ _ _ (by omega) (by omega))) ?_
 refine two (b := decide (a.M = b.M)) (fun b1 => ?_) (fun b1 => ?_)
 ·have d1 := of_decide_eq_true b1
  refine st (zG_hit (bAV b1)) <| st (zP_v (vFieldAddr_loc rfl)) <| st (zG_hit (bAV b1)) <| st (zL_v (wL_loc rfl rfl rfl rfl)) <| st (zG_hit (bAV b1)) <| st (zP_v (vFieldAddr_loc rfl)) <| st (zG_hit (bAV b1)) <| st (zL_v (wL_loc rfl rfl rfl rfl)) <| st (zG_hit (bAV b1)) <| st (cP_call rfl (c48 _ _ _ _ _ _ (by omega) (by omega))) <| st (zP_v (vPick_t (bAV b1))) <| zpV <| st zRet_app ?_
  (rw [b1, Bool.true_and]; exact ends_tmp rfl)
 ·have d1 := of_decide_eq_false b1
  refine st (zG_miss (bAV b1)) <| st (zG_miss (bAV b1)) <| st (zG_miss (bAV b1)) <| st (zG_miss (bAV b1)) <| st (zG_miss (bAV b1)) <| st (zP_v (vPick_f (bAV b1))) <| zpV <| st zRet_app ?_
  (rw [b1, Bool.false_and]; exact ends_tmp rfl)
noncomputable def body13M : CZ := xbody13M E1 (fun _ _ _ => none)
noncomputable def body13C : CZ := xbody13C E1 (fun _ _ _ => none)
def H13 (a b : VwT) : Heap := [.row 25 [a.m, a.c] false, .row 25 [b.m, b.c] false]
theorem loop13M {P : Ans → Prop} {kn : KB} {kx : Nat → KB} {kr : KB} (a b : VwT) (hlm : a.M.length = b.M.length) (hl : a.M.length ≤ 9223372036854775807) (v5 : AV) :
  ∀ (d i q : Nat) (L : List AV), i + d = a.M.length → d < q → (a.M.drop i = b.M.drop i → ∀ L i, P (kx 0 L [a.av, b.av, .loc 0 0, .loc 1 0, i, v5, .bool false] (rep (H13 a b)))) → (a.M.drop i ≠ b.M.drop i → ∀ L i, P (kr L [a.av, b.av, .loc 0 0, .loc 1 0, i, v5, .bool false] (rep (H13 a b)))) →
   P (zLoop q body13M kn kx kr L [a.av, b.av, .loc 0 0, .loc 1 0, iV i, v5, .bool false] (rep (H13 a b)))
 | 0, i, q, L, hi, hq, h1, h2 => by
  obtain ⟨q, rfl⟩ : ∃ q', q = q' + 1 := ⟨q - 1, by omega⟩
  refine st zLoop_one ?_
  unfold body13M xbody13M
  refine zpA <| zpR <| st (zP_v (vFieldAddr_loc rfl)) <| st (zL_v (wL_loc rfl rfl rfl rfl)) <| st (zP_v (vLenL_sl rfl)) <| st (zP_v (vInt_eq fLss_ok rfl rfl (fLss' (by omega)))) <| zpf rfl <| st zExit_app ?_
  exact h1 (by rw [List.drop_eq_nil_of_le (by omega), List.drop_eq_nil_of_le (by omega)]) _ _
 | d + 1, i, q, L, hi, hq, h1, h2 => by
  obtain ⟨q, rfl⟩ : ∃ q', q = q' + 1 := ⟨q - 1, by omega⟩
  obtain ⟨x, hx⟩ := get_some (l := a.M) (i := i) (by omega)
  obtain ⟨y, hy⟩ := get_some (l := b.M) (i := i) (by omega)
  have hcl := memC_len a.M
  have hcm := memC_len b.M
  rw [drop_at hx, drop_at hy] at h1 h2
  refine st zLoop_one ?_
  unfold body13M xbody13M
  refine zpA <| zpR <| st (zP_v (vFieldAddr_loc rfl)) <| st (zL_v (wL_loc rfl rfl rfl rfl)) <| st (zP_v (vLenL_sl rfl)) <| st (zP_v (vInt_eq fLss_ok rfl rfl (tLss (by omega)))) <| zpt rfl <| zpK <| zpA <| st zBlock_app <| zpA <| st zDreg_eq <| st (zPD_v (vFieldAddr_loc rfl)) <| st (zLD_v (wL_loc rfl rfl rfl rfl) rfl (by kernel_rfl)) <| st (zPD_v (vIndexAddr_sl rfl rfl (by omega) (by omega))) ?_
  rw [mem_at hx]
  refine st (zLD_idle (wL_ref rfl rfl rfl) rfl) <| st (zPD_v (vFieldAddr_loc rfl)) <| st (zLD_v (wL_loc rfl rfl rfl rfl) rfl (by kernel_rfl)) <| st (zPD_v (vIndexAddr_sl rfl rfl (by omega) (by omega))) ?_
  rw [mem_at hy]
  refine st (zLD_idle (wL_ref rfl rfl rfl) rfl) <| st (zPD_v (vInt_any rfl rfl (fun _ _ => rfl) (neqM _ _))) ?_
  refine two (b := decide (x ≠ y)) (fun b1 => ?_) (fun b1 => ?_)
  ·have d1 := of_decide_eq_true b1
   refine st (zCond_t (bAV b1)) <| zpR <| zpV <| st zRet_app ?_
   exact h2 (fun e => by simp_all) _ _
  ·have d1 := of_decide_eq_false b1
   refine st (zCond_f (bAV b1)) <| zpK <| st zReg_eq <| st (zP_v vMv_eq) <| st (zP_v (vInt_eq fAdd_ok rfl rfl (aAdd1 (by omega)))) <| zpV ?_
   exact loop13M a b hlm hl v5 d (i + 1) q _ (by omega) (by omega) (fun e => h1 (by simp_all)) (fun e => h2 (by simp_all))
theorem loop13C {P : Ans → Prop} {kn : KB} {kx : Nat → KB} {kr : KB} (a b : VwT) (hlm : a.C.length = b.C.length) (hl : a.C.length ≤ 9223372036854775807) (v4 : AV) :
  ∀ (d i q : Nat) (L : List AV), i + d = a.C.length → d < q → (a.C.drop i = b.C.drop i → ∀ L i, P (kx 2 L [a.av, b.av, .loc 0 0, .loc 1 0, v4, i, .bool false] (rep (H13 a b)))) → (a.C.drop i ≠ b.C.drop i → ∀ L i, P (kr L [a.av, b.av, .loc 0 0, .loc 1 0, v4, i, .bool false] (rep (H13 a b)))) →
   P (zLoop q body13C kn kx kr L [a.av, b.av, .loc 0 0, .loc 1 0, v4, iV i, .bool false] (rep (H13 a b)))
 | 0, i, q, L, hi, hq, h1, h2 => by
  obtain ⟨q, rfl⟩ : ∃ q', q = q' + 1 := ⟨q - 1, by omega⟩
  refine st zLoop_one ?_
  unfold body13C xbody13C
  refine zpA <| zpR <| st (zP_v (vFieldAddr_loc rfl)) <| st (zL_v (wL_loc rfl rfl rfl rfl)) <| st (zP_v (vLenL_sl rfl)) <| st (zP_v (vInt_eq fLss_ok rfl rfl (fLss' (by omega)))) <| zpf rfl <| st zExit_app ?_
  exact h1 (by rw [List.drop_eq_nil_of_le (by omega), List.drop_eq_nil_of_le (by omega)]) _ _
 | d + 1, i, q, L, hi, hq, h1, h2 => by
  obtain ⟨q, rfl⟩ : ∃ q', q = q' + 1 := ⟨q - 1, by omega⟩
  obtain ⟨x, hx⟩ := get_some (l := a.C) (i := i) (by omega)
  obtain ⟨y, hy⟩ := get_some (l := b.C) (i := i) (by omega)
  have hcl := copC_len a.C
  have hcm := copC_len b.C
  rw [drop_at hx, drop_at hy] at h1 h2
  refine st zLoop_one ?_
  unfold body13C xbody13C
  refine zpA <| zpR <| st (zP_v (vFieldAddr_loc rfl)) <| st (zL_v (wL_loc rfl rfl rfl rfl)) <| st (zP_v (vLenL_sl rfl)) <| st (zP_v (vInt_eq fLss_ok rfl rfl (tLss (by omega)))) <| zpt rfl <| zpK <| zpA <| st zBlock_app <| zpA <| st zDreg_eq <| st (zPD_v (vFieldAddr_loc rfl)) <| st (zLD_v (wL_loc rfl rfl rfl rfl) rfl (by kernel_rfl)) <| st (zPD_v (vIndexAddr_sl rfl rfl (by omega) (by omega))) ?_
  rw [cop_at hx]
  refine st (zLD_idle (wL_ref rfl rfl rfl) rfl) <| st (zPD_v (vFieldAddr_loc rfl)) <| st (zLD_v (wL_loc rfl rfl rfl rfl) rfl (by kernel_rfl)) <| st (zPD_v (vIndexAddr_sl rfl rfl (by omega) (by omega))) ?_
  rw [cop_at hy]
  refine st (zLD_idle (wL_ref rfl rfl rfl) rfl) <| st (zPD_v (vInt_any rfl rfl (fun _ _ => rfl) (neqC _ _))) ?_
  refine two (b := decide (x ≠ y)) (fun b1 => ?_) (fun b1 => ?_)
  ·have d1 := of_decide_eq_true b1
   refine st (zCond_t (bAV b1)) <| zpR <| zpV <| st zRet_app ?_
   exact h2 (fun e => by simp_all) _ _
  ·have d1 := of_decide_eq_false b1
   refine st (zCond_f (bAV b1)) <| zpK <| st zReg_eq <| st (zP_v vMv_eq) <| st (zP_v (vInt_eq fAdd_ok rfl rfl (aAdd1 (by omega)))) <| zpV ?_
   exact loop13C a b hlm hl v4 d (i + 1) q _ (by omega) (by omega) (fun e => h1 (by simp_all)) (fun e => h2 (by simp_all))
theorem c13 {k : Nat} (Y : YE) (T : TH) (a b : VwT) (hk : a.M.length + a.C.length + 4 ≤ k) (hm : a.M.length ≤ 9223372036854775807) (hc : a.C.length ≤ 9223372036854775807) : CY k Y (.func 13) [a.av, b.av] T = some (.bool (sameW a b), T, ⟨[], [], false⟩) := by
 obtain ⟨k, rfl⟩ : ∃ j, k = j + 1 := ⟨k - 1, by omega⟩
 refine call_go (zf := G13 E1) rfl rfl (fz_two a b) (fun _ => rfl) ?_
 unfold G13
 dsimp only
 by_cases hlm : a.M.length = b.M.length
 ·by_cases hlc : a.C.length = b.C.length
  ·refine zpR <| st (sV_new (ev_box rfl rfl ⟨_, rfl⟩)) <| st (sV_new (ev_box rfl rfl ⟨_, rfl⟩)) <| zpV <| zpA <| zpR <| st (zP_v (vFieldAddr_loc rfl)) <| st (zL_v (wL_loc rfl rfl rfl rfl)) <| st (zP_v (vLenL_sl rfl)) <| st (zP_v (vFieldAddr_loc rfl)) <| st (zL_v (wL_loc rfl rfl rfl rfl)) <| st (zP_v (vLenL_sl rfl)) <| st (zP_v (vInt_eq fNeq_ok rfl rfl (fNeq' (by omega)))) <| zph rfl <| st (zP_v (vFieldAddr_loc rfl)) <| zph rfl <| st (zL_v (wL_loc rfl rfl rfl rfl)) <| zph rfl <| st (zP_v (vLenL_sl rfl)) <| zph rfl <| st (zP_v (vFieldAddr_loc rfl)) <| zph rfl <| st (zL_v (wL_loc rfl rfl rfl rfl)) <| zph rfl ?_
   refine st (zP_v (vLenL_sl rfl)) <| zph rfl <| st (zP_v (vInt_eq fNeq_ok rfl rfl (fNeq' (by omega)))) <| st (zP_v (vPick_f rfl)) <| zpf rfl <| zpK <| zpA <| zpR <| zpV <| st zBlock_app ?_
   refine loop13M a b hlm hm _ a.M.length 0 k _ (by omega) (by omega) (fun e L i => ?_) (fun e L i => ?_) <;> rw [List.drop_zero, List.drop_zero] at e
   ·refine st (ifZ_pos rfl) <| zpA <| zpR <| zpV <| st zBlock_app ?_
    refine loop13C a b hlc hc _ a.C.length 0 k _ (by omega) (by omega) (fun e2 L i => ?_) (fun e2 L i => ?_) <;> rw [List.drop_zero, List.drop_zero] at e2
    ·rw [show sameW a b = true by simp [sameW, e, e2]]
     refine st (ifZ_pos rfl) <| zpR <| zpV <| st zRet_app ?_
     exact ends_tmp rfl
    ·rw [show sameW a b = false by simp [sameW, e2]]
     exact ends_tmp rfl
   ·rw [show sameW a b = false by simp [sameW, e]]
    exact ends_tmp rfl
  ·rw [show sameW a b = false by simp only [sameW, Bool.and_eq_false_iff, decide_eq_false_iff_not]; exact .inr fun h => hlc (by rw [h])]
   refine zpR <| st (sV_new (ev_box rfl rfl ⟨_, rfl⟩)) <| st (sV_new (ev_box rfl rfl ⟨_, rfl⟩)) <| zpV <| zpA <| zpR <| st (zP_v (vFieldAddr_loc rfl)) <| st (zL_v (wL_loc rfl rfl rfl rfl)) <| st (zP_v (vLenL_sl rfl)) <| st (zP_v (vFieldAddr_loc rfl)) <| st (zL_v (wL_loc rfl rfl rfl rfl)) <| st (zP_v (vLenL_sl rfl)) <| st (zP_v (vInt_eq fNeq_ok rfl rfl (fNeq' (by omega)))) <| zph rfl <| st (zP_v (vFieldAddr_loc rfl)) <| zph rfl <| st (zL_v (wL_loc rfl rfl rfl rfl)) <| zph rfl <| st (zP_v (vLenL_sl rfl)) <| zph rfl <| st (zP_v (vFieldAddr_loc rfl)) <| zph rfl <| st (zL_v (wL_loc rfl rfl rfl rfl)) <| zph rfl ?_
   refine st (zP_v (vLenL_sl rfl)) <| zph rfl <| st (zP_v (vInt_eq fNeq_ok rfl rfl (tNeq (by omega)))) <| st (zP_v (vPick_f rfl)) <| zpt rfl <| zpR <| zpV <| st zRet_app ?_
   exact ends_tmp rfl
 ·rw [show sameW a b = false by simp only [sameW, Bool.and_eq_false_iff, decide_eq_false_iff_not]; exact .inl fun h => hlm (by rw [h])]
  refine zpR <| st (sV_new (ev_box rfl rfl ⟨_, rfl⟩)) <| st (sV_new (ev_box rfl rfl ⟨_, rfl⟩)) <| zpV <| zpA <| zpR <| st (zP_v (vFieldAddr_loc rfl)) <| st (zL_v (wL_loc rfl rfl rfl rfl)) <| st (zP_v (vLenL_sl rfl)) <| st (zP_v (vFieldAddr_loc rfl)) <| st (zL_v (wL_loc rfl rfl rfl rfl)) <| st (zP_v (vLenL_sl rfl)) <| st (zP_v (vInt_eq fNeq_ok rfl rfl (tNeq (by omega)))) <| zpm rfl <| zpm rfl <| zpm rfl <| zpm rfl <| zpm rfl <| zpm rfl <| zpm rfl <| st (zP_v (vPick_t rfl)) <| zpt rfl <| zpR <| zpV ?_
  refine st zRet_app ?_
  exact ends_tmp rfl
end Go.Proofs.PxV2
