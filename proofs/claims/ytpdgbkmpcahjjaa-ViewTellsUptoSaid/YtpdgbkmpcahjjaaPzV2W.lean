/- Views: whether one is (walks by zauto). -/
import Derived.Test.YtpdgbkmpcahjjaaPzV2U
set_option linter.unusedVariables false
set_option linter.unusedSimpArgs false
set_option maxRecDepth 100000
namespace Go.Proofs.PxV2
open Go Go.Px Go.Proofs
noncomputable def body10M (call : CallTT) : CZ := xbody10M E1 call
noncomputable def body10C (call : CallTT) : CZ := xbody10C E1 call
def V10 (w : VwT) (i v5 v6 v7 v8 v9 v10 v11 r : AV) : List AV := [w.av, .loc 0 0, i, iV w.M.length, w.m, v5, v6, v7, v8, v9, v10, v11, r]
theorem badM_of {M : List Mem} {i : Nat} {x : Mem} (h : M[i]? = some x) (hc : x.1 < 0 ∨ x.1 ≥ 4 ∨ x.2 = 0) : badM M i = true := by
 unfold badM; rw [h]
 obtain ⟨d, n⟩ := x
 rcases hc with hc | hc | hc
 ·have hc : d < 0 := hc
  simp [hc]
 ·have hc : d ≥ 4 := hc
  simp [hc]
 ·have hc : n = 0 := hc
  simp [hc]
theorem badM_zero {M : List Mem} {x : Mem} (h : M[0]? = some x) (h1 : ¬x.1 < 0) (h2 : ¬x.1 ≥ 4) (h3 : ¬x.2 = 0) : badM M 0 = false := by
 unfold badM; rw [h]
 obtain ⟨d, n⟩ := x
 have h1 : ¬d < 0 := h1
 have h2 : ¬d ≥ 4 := h2
 have h3 : ¬n = 0 := h3
 simp [h1, h2, h3]
theorem badM_succ {M : List Mem} {j : Nat} {x y : Mem} (h : M[j + 1]? = some x) (hy : M[j]? = some y) (h1 : ¬x.1 < 0) (h2 : ¬x.1 ≥ 4) (h3 : ¬x.2 = 0) : badM M (j + 1) = decide (y.1 ≥ x.1) := by
 unfold badM; rw [h]
 obtain ⟨d, n⟩ := x
 have h1 : ¬d < 0 := h1
 have h2 : ¬d ≥ 4 := h2
 have h3 : ¬n = 0 := h3
 simp [h1, h2, h3, hy]
theorem cmp_geq {a b : Int} : intBin .geq .i64 (cmpI a b) 0 = some (.bool (decide (a ≥ b))) := by
 unfold cmpI
 rcases Int.lt_trichotomy a b with h | h | h
 ·rw [if_pos h, show decide (a ≥ b) = false by simp; omega]; rfl
 ·subst h; simp; rfl
 ·rw [if_neg (by omega), if_pos h, show decide (a ≥ b) = true by simp; omega]; rfl
theorem loop10M {P : Ans → Prop} {kn : KB} {kx : Nat → KB} {kr : KB} {k : Nat} (w : VwT) (hl : w.M.length ≤ 9223372036854775807) (hk : 10 ≤ k) (v7 v8 v9 v10 v11 : AV) :
  ∀ (d i q : Nat) (L : List AV) (H : Heap) (v5 v6 : AV), i + d = w.M.length → d < q → H[0]? = some (.row 25 [w.m, w.c] false) →
  (goodN (badM w.M) i d = true → ∀ L H i v5 v6, H[0]? = some (.row 25 [w.m, w.c] false) → P (kx 0 L (V10 w i v5 v6 v7 v8 v9 v10 v11 (.bool false)) (rep H))) → (goodN (badM w.M) i d = false → ∀ L H i v5 v6, H[0]? = some (.row 25 [w.m, w.c] false) → P (kr L (V10 w i v5 v6 v7 v8 v9 v10 v11 (.bool false)) (rep H))) →
   P (zLoop q (body10M (CY k [])) kn kx kr L (V10 w (iV i) v5 v6 v7 v8 v9 v10 v11 (.bool false)) (rep H))
 | 0, i, q, L, H, v5, v6, hi, hq, h0, h1, h2 => by
  obtain ⟨q, rfl⟩ : ∃ q', q = q' + 1 := ⟨q - 1, by omega⟩
  refine st zLoop_one ?_
  unfold body10M xbody10M
  refine zpR <| st (zP_v (vInt_eq fLss_ok rfl rfl (fLss' (by omega)))) <| zpA <| zpf rfl <| st zExit_app ?_
  exact h1 rfl _ _ _ _ _ h0
 | d + 1, i, q, L, H, v5, v6, hi, hq, h0, h1, h2 => by
  obtain ⟨q, rfl⟩ : ∃ q', q = q' + 1 := ⟨q - 1, by omega⟩
  obtain ⟨x, hx⟩ := get_some (l := w.M) (i := i) (by omega)
  have hcl := memC_len w.M
  have h0l := len_of h0
  rw [show goodN (badM w.M) i (d + 1) = (!badM w.M i && goodN (badM w.M) (i + 1) d) from rfl] at h1 h2
  have bad : badM w.M i = true → ∀ L H i v5 v6, H[0]? = some (.row 25 [w.m, w.c] false) → P (kr L (V10 w i v5 v6 v7 v8 v9 v10 v11 (.bool false)) (rep H)) := fun e => h2 (by rw [e]; rfl)
  refine st zLoop_one ?_
  unfold body10M xbody10M
  by_cases c1 : x.1 < 0
  ·refine zpR <| st (zP_v (vInt_eq fLss_ok rfl rfl (tLss (by omega)))) <| zpA <| zpt rfl <| zpK <| zpA <| st zBlock_app <| zpR <| st (zP_v (vIndexAddr_sl rfl rfl (by omega) (by omega))) ?_
   rw [mem_at hx]
   refine st (zL_v (wL_ref rfl rfl rfl)) <| st (sV_new (ev_alloc ⟨_, rfl, rfl⟩)) <| zpV <| st (sN_put (ev_store rfl rfl get_last ⟨_, rfl, rfl⟩ rfl rfl)) <| zpA <| st zDreg_eq <| st (zPD_v (vFieldAddr_loc rfl)) <| st (zLD_v (wL_loc rfl (get_app (get_self get_last)) rfl rfl) rfl (by kernel_rfl)) <| st (zPD_v (vInt_eq fLss_ok rfl rfl (tLss (by omega)))) <| zpM rfl <| zpM rfl <| zpM rfl <| st (zPD_v (vPick_t rfl)) <| zpM rfl <| zpM rfl <| zpM rfl <| st (zPD_v (vPick_t rfl)) <| zpM rfl <| zpM rfl <| zpM rfl <| zpS rfl <| zpS rfl <| zpS rfl <| zpS rfl ?_
   refine zpS rfl <| zpS rfl <| zpS rfl <| zpS rfl <| zpS rfl <| zpM rfl <| st (zPD_v (vPick_t rfl)) <| zpt rfl <| zpR <| zpV <| st zRet_app ?_
   exact bad (badM_of hx (.inl c1)) _ _ _ _ _ (get_app (get_set (get_app h0) (by omega)))
  by_cases c2 : x.1 ≥ 4
  ·refine zpR <| st (zP_v (vInt_eq fLss_ok rfl rfl (tLss (by omega)))) <| zpA <| zpt rfl <| zpK <| zpA <| st zBlock_app <| zpR <| st (zP_v (vIndexAddr_sl rfl rfl (by omega) (by omega))) ?_
   rw [mem_at hx]
   refine st (zL_v (wL_ref rfl rfl rfl)) <| st (sV_new (ev_alloc ⟨_, rfl, rfl⟩)) <| zpV <| st (sN_put (ev_store rfl rfl get_last ⟨_, rfl, rfl⟩ rfl rfl)) <| zpA <| st zDreg_eq <| st (zPD_v (vFieldAddr_loc rfl)) <| st (zLD_v (wL_loc rfl (get_app (get_self get_last)) rfl rfl) rfl (by kernel_rfl)) <| st (zPD_v (vInt_eq fLss_ok rfl rfl (fLss' (by omega)))) <| zpH rfl <| st (zPD_v (vFieldAddr_loc rfl)) <| zpH rfl <| st (zLD_v (wL_loc rfl (get_app (get_self get_last)) rfl rfl) rfl (by kernel_rfl)) <| zpH rfl <| st (zPD_v (vInt_eq (fGen_ok (by simp) (by simp)) rfl rfl (tGeq (by omega)))) <| st (zPD_v (vPick_f rfl)) <| zpM rfl <| zpM rfl <| zpM rfl <| st (zPD_v (vPick_t rfl)) <| zpM rfl <| zpM rfl <| zpM rfl <| zpS rfl ?_
   refine zpS rfl <| zpS rfl <| zpS rfl <| zpS rfl <| zpS rfl <| zpS rfl <| zpS rfl <| zpS rfl <| zpM rfl <| st (zPD_v (vPick_t rfl)) <| zpt rfl <| zpR <| zpV <| st zRet_app ?_
   exact bad (badM_of hx (.inr (.inl c2))) _ _ _ _ _ (get_app (get_set (get_app h0) (by omega)))
  by_cases c3 : x.2 = 0
  ·refine zpR <| st (zP_v (vInt_eq fLss_ok rfl rfl (tLss (by omega)))) <| zpA <| zpt rfl <| zpK <| zpA <| st zBlock_app <| zpR <| st (zP_v (vIndexAddr_sl rfl rfl (by omega) (by omega))) ?_
   rw [mem_at hx]
   refine st (zL_v (wL_ref rfl rfl rfl)) <| st (sV_new (ev_alloc ⟨_, rfl, rfl⟩)) <| zpV <| st (sN_put (ev_store rfl rfl get_last ⟨_, rfl, rfl⟩ rfl rfl)) <| zpA <| st zDreg_eq <| st (zPD_v (vFieldAddr_loc rfl)) <| st (zLD_v (wL_loc rfl (get_app (get_self get_last)) rfl rfl) rfl (by kernel_rfl)) <| st (zPD_v (vInt_eq fLss_ok rfl rfl (fLss' (by omega)))) <| zpH rfl <| st (zPD_v (vFieldAddr_loc rfl)) <| zpH rfl <| st (zLD_v (wL_loc rfl (get_app (get_self get_last)) rfl rfl) rfl (by kernel_rfl)) <| zpH rfl <| st (zPD_v (vInt_eq (fGen_ok (by simp) (by simp)) rfl rfl (fGeq' (by omega)))) <| st (zPD_v (vPick_f rfl)) <| zpH rfl <| st (zPD_v (vFieldAddr_loc rfl)) <| zpH rfl <| st (zLD_v (wL_loc rfl (get_app (get_self get_last)) rfl rfl) rfl (by kernel_rfl)) <| zpH rfl <| st (zPD_v (vInt_eq fEql_ok rfl rfl (tEql (by omega)))) <| st (zPD_v (vPick_f rfl)) <| zpM rfl ?_
   refine zpM rfl <| zpM rfl <| zpS rfl <| zpS rfl <| zpS rfl <| zpS rfl <| zpS rfl <| zpS rfl <| zpS rfl <| zpS rfl <| zpS rfl <| zpM rfl <| st (zPD_v (vPick_t rfl)) <| zpt rfl <| zpR <| zpV <| st zRet_app ?_
   exact bad (badM_of hx (.inr (.inr c3))) _ _ _ _ _ (get_app (get_set (get_app h0) (by omega)))
  cases i with
  | zero =>
   have e : badM w.M 0 = false := badM_zero hx c1 c2 c3
   rw [e] at h1 h2
   refine zpR <| st (zP_v (vInt_eq fLss_ok rfl rfl (tLss (by omega)))) <| zpA <| zpt rfl <| zpK <| zpA <| st zBlock_app <| zpR <| st (zP_v (vIndexAddr_sl rfl rfl (by omega) (by omega))) ?_
   rw [mem_at hx]
   refine st (zL_v (wL_ref rfl rfl rfl)) <| st (sV_new (ev_alloc ⟨_, rfl, rfl⟩)) <| zpV <| st (sN_put (ev_store rfl rfl get_last ⟨_, rfl, rfl⟩ rfl rfl)) <| zpA <| st zDreg_eq <| st (zPD_v (vFieldAddr_loc rfl)) <| st (zLD_v (wL_loc rfl (get_app (get_self get_last)) rfl rfl) rfl (by kernel_rfl)) <| st (zPD_v (vInt_eq fLss_ok rfl rfl (fLss' (by omega)))) <| zpH rfl <| st (zPD_v (vFieldAddr_loc rfl)) <| zpH rfl <| st (zLD_v (wL_loc rfl (get_app (get_self get_last)) rfl rfl) rfl (by kernel_rfl)) <| zpH rfl <| st (zPD_v (vInt_eq (fGen_ok (by simp) (by simp)) rfl rfl (fGeq' (by omega)))) <| st (zPD_v (vPick_f rfl)) <| zpH rfl <| st (zPD_v (vFieldAddr_loc rfl)) <| zpH rfl <| st (zLD_v (wL_loc rfl (get_app (get_self get_last)) rfl rfl) rfl (by kernel_rfl)) <| zpH rfl <| st (zPD_v (vInt_eq fEql_ok rfl rfl (fEql' (by omega)))) <| st (zPD_v (vPick_f rfl)) <| zpH rfl ?_
   refine st (zPD_v vMv_eq) <| zpH rfl <| st (zPD_v (vInt_eq fGtr_ok rfl rfl (fGtr' (by omega)))) <| zpH rfl <| st (zPD_v vMv_eq) <| zpM rfl <| zpM rfl <| zpM rfl <| zpM rfl <| zpM rfl <| zpM rfl <| zpM rfl <| zpM rfl <| zpM rfl <| zpH rfl <| st (zPD_v (vPick_f rfl)) <| st (zPD_v (vPick_f rfl)) <| zpf rfl <| zpK <| st zReg_eq <| st (zP_v (vInt_eq fAdd_ok rfl rfl (aAdd1 (by omega)))) <| zpV ?_
   exact loop10M w hl hk v7 v8 v9 v10 v11 d 1 q _ _ _ _ (by omega) (by omega) (get_app (get_set (get_app h0) (by omega))) h1 h2
  | succ j =>
   obtain ⟨y, hy⟩ := get_some (l := w.M) (i := j) (by omega)
   have e : badM w.M (j + 1) = decide (y.1 ≥ x.1) := badM_succ hx hy c1 c2 c3
   rw [e] at h1 h2 bad
   obtain ⟨k, rfl⟩ : ∃ k', k = k' + 3 := ⟨k - 3, by omega⟩
   by_cases c4 : y.1 ≥ x.1
   ·have c4' := cmp_geq (a := y.1) (b := x.1)
    rw [decide_eq_true c4] at c4'
    refine zpR <| st (zP_v (vInt_eq fLss_ok rfl rfl (tLss (by omega)))) <| zpA <| zpt rfl <| zpK <| zpA <| st zBlock_app <| zpR <| st (zP_v (vIndexAddr_sl rfl rfl (by omega) (by omega))) ?_
    rw [mem_at hx]
    refine st (zL_v (wL_ref rfl rfl rfl)) <| st (sV_new (ev_alloc ⟨_, rfl, rfl⟩)) <| zpV <| st (sN_put (ev_store rfl rfl get_last ⟨_, rfl, rfl⟩ rfl rfl)) <| zpA <| st zDreg_eq <| st (zPD_v (vFieldAddr_loc rfl)) <| st (zLD_v (wL_loc rfl (get_app (get_self get_last)) rfl rfl) rfl (by kernel_rfl)) <| st (zPD_v (vInt_eq fLss_ok rfl rfl (fLss' (by omega)))) <| zpH rfl <| st (zPD_v (vFieldAddr_loc rfl)) <| zpH rfl <| st (zLD_v (wL_loc rfl (get_app (get_self get_last)) rfl rfl) rfl (by kernel_rfl)) <| zpH rfl <| st (zPD_v (vInt_eq (fGen_ok (by simp) (by simp)) rfl rfl (fGeq' (by omega)))) <| st (zPD_v (vPick_f rfl)) <| zpH rfl <| st (zPD_v (vFieldAddr_loc rfl)) <| zpH rfl <| st (zLD_v (wL_loc rfl (get_app (get_self get_last)) rfl rfl) rfl (by kernel_rfl)) <| zpH rfl <| st (zPD_v (vInt_eq fEql_ok rfl rfl (fEql' (by omega)))) <| st (zPD_v (vPick_f rfl)) <| zpH rfl ?_
    refine st (zPD_v vMv_eq) <| zpH rfl <| st (zPD_v (vInt_eq fGtr_ok rfl rfl (tGtr (by omega)))) <| zpH rfl <| st (zPD_v vMv_eq) <| zpH rfl <| st (zPD_v (vFieldAddr_loc rfl)) <| zpH rfl <| st (zLD_v (wL_loc rfl (get_app (get_set (get_app (by assumption)) (by omega))) rfl rfl) rfl (by kernel_rfl)) <| zpH rfl <| st (zPD_v vMv_eq) <| zpH rfl <| st (zPD_v (vInt_eq fSub_ok rfl rfl (aSubS (by omega)))) <| zpH rfl <| st (zPD_v (vIndexAddr_sl rfl rfl (by omega) (by omega))) ?_
    rw [mem_at hy]
    refine zpH rfl <| st (zLD_idle (wL_ref rfl rfl rfl) rfl) <| zpH rfl <| st (zLD_v (wL_loc rfl (get_app (get_self get_last)) rfl rfl) rfl (by kernel_rfl)) <| zpH rfl <| st (cP_idle rfl (c45 _ _ y.1 x.1 _ _) rfl) <| zpH rfl <| st (zPD_v (vInt_eq (fGen_ok (by simp) (by simp)) rfl rfl c4')) <| zpH rfl <| st (zPD_v (vPick_t rfl)) <| st (zPD_v (vPick_f rfl)) <| zpt rfl <| zpR <| zpV <| st zRet_app ?_
    exact bad (by simpa using c4) _ _ _ _ _ (get_app (get_set (get_app h0) (by omega)))
   ·have c4' := cmp_geq (a := y.1) (b := x.1)
    rw [decide_eq_false c4] at c4' h1 h2
    refine zpR <| st (zP_v (vInt_eq fLss_ok rfl rfl (tLss (by omega)))) <| zpA <| zpt rfl <| zpK <| zpA <| st zBlock_app <| zpR <| st (zP_v (vIndexAddr_sl rfl rfl (by omega) (by omega))) ?_
    rw [mem_at hx]
    refine st (zL_v (wL_ref rfl rfl rfl)) <| st (sV_new (ev_alloc ⟨_, rfl, rfl⟩)) <| zpV <| st (sN_put (ev_store rfl rfl get_last ⟨_, rfl, rfl⟩ rfl rfl)) <| zpA <| st zDreg_eq <| st (zPD_v (vFieldAddr_loc rfl)) <| st (zLD_v (wL_loc rfl (get_app (get_self get_last)) rfl rfl) rfl (by kernel_rfl)) <| st (zPD_v (vInt_eq fLss_ok rfl rfl (fLss' (by omega)))) <| zpH rfl <| st (zPD_v (vFieldAddr_loc rfl)) <| zpH rfl <| st (zLD_v (wL_loc rfl (get_app (get_self get_last)) rfl rfl) rfl (by kernel_rfl)) <| zpH rfl <| st (zPD_v (vInt_eq (fGen_ok (by simp) (by simp)) rfl rfl (fGeq' (by omega)))) <| st (zPD_v (vPick_f rfl)) <| zpH rfl <| st (zPD_v (vFieldAddr_loc rfl)) <| zpH rfl <| st (zLD_v (wL_loc rfl (get_app (get_self get_last)) rfl rfl) rfl (by kernel_rfl)) <| zpH rfl <| st (zPD_v (vInt_eq fEql_ok rfl rfl (fEql' (by omega)))) <| st (zPD_v (vPick_f rfl)) <| zpH rfl ?_
    refine st (zPD_v vMv_eq) <| zpH rfl <| st (zPD_v (vInt_eq fGtr_ok rfl rfl (tGtr (by omega)))) <| zpH rfl <| st (zPD_v vMv_eq) <| zpH rfl <| st (zPD_v (vFieldAddr_loc rfl)) <| zpH rfl <| st (zLD_v (wL_loc rfl (get_app (get_set (get_app (by assumption)) (by omega))) rfl rfl) rfl (by kernel_rfl)) <| zpH rfl <| st (zPD_v vMv_eq) <| zpH rfl <| st (zPD_v (vInt_eq fSub_ok rfl rfl (aSubS (by omega)))) <| zpH rfl <| st (zPD_v (vIndexAddr_sl rfl rfl (by omega) (by omega))) ?_
    rw [mem_at hy]
    refine zpH rfl <| st (zLD_idle (wL_ref rfl rfl rfl) rfl) <| zpH rfl <| st (zLD_v (wL_loc rfl (get_app (get_self get_last)) rfl rfl) rfl (by kernel_rfl)) <| zpH rfl <| st (cP_idle rfl (c45 _ _ y.1 x.1 _ _) rfl) <| zpH rfl <| st (zPD_v (vInt_eq (fGen_ok (by simp) (by simp)) rfl rfl c4')) <| zpH rfl <| st (zPD_v (vPick_t rfl)) <| st (zPD_v (vPick_f rfl)) <| zpf rfl <| zpK <| st zReg_eq <| st (zP_v (vInt_eq fAdd_ok rfl rfl (aAdd1 (by omega)))) <| zpV ?_
    exact loop10M w hl hk v7 v8 v9 v10 v11 d (j + 1 + 1) q _ _ _ _ (by omega) (by omega) (get_app (get_set (get_app h0) (by omega))) h1 h2
end Go.Proofs.PxV2
