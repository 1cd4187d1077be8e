/- Views: turned, set by the reference (walks by zauto). -/
import Derived.Test.YtpdgbkmpcahjjaaPzV2T
import Derived.Test.YtpdgbkmpcahjjaaPzV2R
set_option linter.unusedVariables false
set_option linter.unusedSimpArgs false
set_option maxRecDepth 100000
namespace Go.Proofs.PxV2
open Go Go.Px Go.Proofs
def lastM (n : Int) (l : List Mem) (a : Nat) : Nat := l.foldl (fun a x => if x.1 = n then x.2 else a) a
def lastC (key : List Nat) (l : List Cop) (a : Nat) : Nat := l.foldl (fun a x => if x.1 = key then x.2.1 else a) a
noncomputable def body23 : CZ := xbody23 E1 (fun _ _ _ => none)
theorem loop23 {P : Ans → Prop} {kn : KB} {kx : Nat → KB} {kr : KB} (w : VwT) (n : Int) (r3 : AV) (H : Heap) (h0 : H[0]? = some (.row 25 [w.m, w.c] false)) (hl : w.M.length ≤ 100) :
  ∀ (d i q : Nat) (L : List AV) (a : Nat), i + d = w.M.length → d < q → (∀ L i', P (kx 0 L [w.av, iV n, .loc 0 0, r3, i', .int .u64 ((lastM n (w.M.drop i) a : Nat) : Int)] (rep H))) →
   P (zLoop q body23 kn kx kr L [w.av, iV n, .loc 0 0, r3, iV i, .int .u64 (a : Int)] (rep H))
 | 0, i, q, L, a, hi, hq, h1 => by
  obtain ⟨q, rfl⟩ : ∃ q', q = q' + 1 := ⟨q - 1, by omega⟩
  refine st zLoop_one ?_
  unfold body23 xbody23
  rw [List.drop_eq_nil_of_le (by omega)] at h1
  refine zpA <| zpR <| st (zP_v (vFieldAddr_loc rfl)) <| st (zL_v (wL_loc rfl (by assumption) rfl rfl)) <| st (zP_v (vLenL_sl rfl)) <| st (zP_v (vInt_eq fLss_ok rfl rfl (fLss' (by omega)))) <| zpf rfl <| st zExit_app ?_
  exact h1 _ _
 | d + 1, i, q, L, a, hi, hq, h1 => by
  obtain ⟨q, rfl⟩ : ∃ q', q = q' + 1 := ⟨q - 1, by omega⟩
  obtain ⟨x, hx⟩ := get_some (l := w.M) (i := i) (by omega)
  have hcl := memC_len w.M
  rw [drop_at hx] at h1
  refine st zLoop_one ?_
  unfold body23 xbody23
  by_cases he : x.1 = n
  ·have e : lastM n (x :: w.M.drop (i + 1)) a = lastM n (w.M.drop (i + 1)) x.2 := by simp [lastM, he]
   rw [e] at h1
   refine zpA <| zpR <| st (zP_v (vFieldAddr_loc rfl)) <| st (zL_v (wL_loc rfl (by assumption) rfl rfl)) <| st (zP_v (vLenL_sl rfl)) <| st (zP_v (vInt_eq fLss_ok rfl rfl (tLss (by omega)))) <| zpt rfl <| zpK <| zpA <| st zBlock_app <| zpR <| st (zP_v (vFieldAddr_loc rfl)) <| st (zL_v (wL_loc rfl (by assumption) rfl rfl)) <| st (zP_v (vIndexAddr_sl rfl rfl (by omega) (by omega))) ?_
   rw [mem_at hx]
   refine st (zP_v (vFieldAddr_ref rfl (by simp))) <| st (zL_v (wL_ref rfl rfl rfl)) <| st (zP_v (vInt_eq fEql_ok rfl rfl (tEql (by omega)))) <| zpt rfl <| st zReg_eq <| st (zP_v (vFieldAddr_loc rfl)) <| st (zL_v (wL_loc rfl (by assumption) rfl rfl)) <| st (zP_v (vIndexAddr_sl rfl rfl (by omega) (by omega))) ?_
   rw [mem_at hx]
   refine st (zP_v (vFieldAddr_ref rfl (by simp))) <| st (zL_v (wL_ref rfl rfl rfl)) <| zpV <| st zReg_eq <| st (zP_v vMv_eq) <| st (zP_v (vInt_eq fAdd_ok rfl rfl (aAdd1 (by omega)))) <| zpV ?_
   exact loop23 w n r3 H h0 hl d (i + 1) q _ x.2 (by omega) (by omega) h1
  ·have e : lastM n (x :: w.M.drop (i + 1)) a = lastM n (w.M.drop (i + 1)) a := by simp [lastM, he]
   rw [e] at h1
   refine zpA <| zpR <| st (zP_v (vFieldAddr_loc rfl)) <| st (zL_v (wL_loc rfl (by assumption) rfl rfl)) <| st (zP_v (vLenL_sl rfl)) <| st (zP_v (vInt_eq fLss_ok rfl rfl (tLss (by omega)))) <| zpt rfl <| zpK <| zpA <| st zBlock_app <| zpR <| st (zP_v (vFieldAddr_loc rfl)) <| st (zL_v (wL_loc rfl (by assumption) rfl rfl)) <| st (zP_v (vIndexAddr_sl rfl rfl (by omega) (by omega))) ?_
   rw [mem_at hx]
   refine st (zP_v (vFieldAddr_ref rfl (by simp))) <| st (zL_v (wL_ref rfl rfl rfl)) <| st (zP_v (vInt_eq fEql_ok rfl rfl (fEql' (by omega)))) <| zpf rfl <| zpK <| st zReg_eq <| st (zP_v vMv_eq) <| st (zP_v (vInt_eq fAdd_ok rfl rfl (aAdd1 (by omega)))) <| zpV ?_
   exact loop23 w n r3 H h0 hl d (i + 1) q _ a (by omega) (by omega) h1
noncomputable def body27 : CZ := xbody27 E1 (fun _ _ _ => none)
theorem loop27 {P : Ans → Prop} {kn : KB} {kx : Nat → KB} {kr : KB} (w : VwT) (key : List Nat) (n : Int) (r5 : AV) (H : Heap) (h0 : H[0]? = some (.row 25 [w.m, w.c] false)) (hl : w.C.length ≤ 1000) :
  ∀ (d i q : Nat) (L : List AV) (a : Nat), i + d = w.C.length → d < q → (∀ L i', P (kx 0 L [w.av, i', .loc 0 0, .str key, .int .u64 ((lastC key (w.C.drop i) a : Nat) : Int), r5, iV n] (rep H))) →
   P (zLoop q body27 kn kx kr L [w.av, iV i, .loc 0 0, .str key, .int .u64 (a : Int), r5, iV n] (rep H))
 | 0, i, q, L, a, hi, hq, h1 => by
  obtain ⟨q, rfl⟩ : ∃ q', q = q' + 1 := ⟨q - 1, by omega⟩
  refine st zLoop_one ?_
  unfold body27 xbody27
  rw [List.drop_eq_nil_of_le (by omega)] at h1
  refine zpA <| zpR <| st (zP_v (vFieldAddr_loc rfl)) <| st (zL_v (wL_loc rfl (by assumption) rfl rfl)) <| st (zP_v (vLenL_sl rfl)) <| st (zP_v (vInt_eq fLss_ok rfl rfl (fLss' (by omega)))) <| zpf rfl <| st zExit_app ?_
  exact h1 _ _
 | d + 1, i, q, L, a, hi, hq, h1 => by
  obtain ⟨q, rfl⟩ : ∃ q', q = q' + 1 := ⟨q - 1, by omega⟩
  obtain ⟨x, hx⟩ := get_some (l := w.C) (i := i) (by omega)
  have hcl := copC_len w.C
  rw [drop_at hx] at h1
  refine st zLoop_one ?_
  unfold body27 xbody27
  by_cases he : x.1 = key
  ·have e : lastC key (x :: w.C.drop (i + 1)) a = lastC key (w.C.drop (i + 1)) x.2.1 := by simp [lastC, he]
   have e2 : binB E1 .eql 9 false false (.str x.1) (.str key) = some (.bool true) := by
    show some (AV.bool (x.1 == key)) = _
    rw [he, beq_self_eq_true]
   rw [e] at h1
   refine zpA <| zpR <| st (zP_v (vFieldAddr_loc rfl)) <| st (zL_v (wL_loc rfl (by assumption) rfl rfl)) <| st (zP_v (vLenL_sl rfl)) <| st (zP_v (vInt_eq fLss_ok rfl rfl (tLss (by omega)))) <| zpt rfl <| zpK <| zpA <| st zBlock_app <| zpR <| st (zP_v (vFieldAddr_loc rfl)) <| st (zL_v (wL_loc rfl (by assumption) rfl rfl)) <| st (zP_v (vIndexAddr_sl rfl rfl (by omega) (by omega))) ?_
   rw [cop_at hx]
   refine st (zP_v (vFieldAddr_ref rfl (by simp))) <| st (zL_v (wL_ref rfl rfl rfl)) <| st (zP_v (vInt_bin rfl rfl e2)) <| zpt rfl <| st zReg_eq <| st (zP_v (vFieldAddr_loc rfl)) <| st (zL_v (wL_loc rfl (by assumption) rfl rfl)) <| st (zP_v (vIndexAddr_sl rfl rfl (by omega) (by omega))) ?_
   rw [cop_at hx]
   refine st (zP_v (vFieldAddr_ref rfl (by simp))) <| st (zL_v (wL_ref rfl rfl rfl)) <| zpV <| st zReg_eq <| st (zP_v vMv_eq) <| st (zP_v (vInt_eq fAdd_ok rfl rfl (aAdd1 (by omega)))) <| zpV ?_
   exact loop27 w key n r5 H h0 hl d (i + 1) q _ x.2.1 (by omega) (by omega) h1
  ·have e : lastC key (x :: w.C.drop (i + 1)) a = lastC key (w.C.drop (i + 1)) a := by simp [lastC, he]
   rw [e] at h1
   refine zpA <| zpR <| st (zP_v (vFieldAddr_loc rfl)) <| st (zL_v (wL_loc rfl (by assumption) rfl rfl)) <| st (zP_v (vLenL_sl rfl)) <| st (zP_v (vInt_eq fLss_ok rfl rfl (tLss (by omega)))) <| zpt rfl <| zpK <| zpA <| st zBlock_app <| zpR <| st (zP_v (vFieldAddr_loc rfl)) <| st (zL_v (wL_loc rfl (by assumption) rfl rfl)) <| st (zP_v (vIndexAddr_sl rfl rfl (by omega) (by omega))) ?_
   rw [cop_at hx]
   refine st (zP_v (vFieldAddr_ref rfl (by simp))) <| st (zL_v (wL_ref rfl rfl rfl)) <| st (zP_v (vInt_bin rfl rfl (seqF he))) <| zpf rfl <| zpK <| st zReg_eq <| st (zP_v vMv_eq) <| st (zP_v (vInt_eq fAdd_ok rfl rfl (aAdd1 (by omega)))) <| zpV ?_
   exact loop27 w key n r5 H h0 hl d (i + 1) q _ a (by omega) (by omega) h1
theorem c23 {k : Nat} (Y : YE) (T : TH) (w : VwT) (n : Int) (hk : 1000 ≤ k) (hw : OkV w) (ht : lastM n w.M 0 + 1 < 18446744073709551616) :
  ∃ f1 f2, CY k Y (.func 23) [w.av, iV n] T = some ((VwT.mk (if n < 0 ∨ n ≥ 4 then w.M else insM gM (n, lastM n w.M 0 + 1) w.M) w.C f1 f2).av, T, ⟨[], [], false⟩) := by
 obtain ⟨k, rfl⟩ : ∃ j, k = j + 1 + 1 := ⟨k - 2, by omega⟩
 have := hw.m; have := hw.c
 by_cases hn : n < 0
 ·rw [if_pos (.inl hn)]
  refine ⟨w.fM, w.fC, call_go (zf := G23 E1) rfl rfl (fz_vi w n) (fun _ => rfl) ?_⟩
  unfold G23
  dsimp only
  refine zpR <| st (sV_new (ev_box rfl rfl ⟨_, rfl⟩)) <| st (sV_new (ev_alloc ⟨_, rfl, rfl⟩)) <| zpA <| zpR <| st (zP_v (vInt_eq fLss_ok rfl rfl (tLss (by omega)))) <| zpm rfl <| zpm rfl <| st (zP_v (vPick_t rfl)) <| zpt rfl <| zpR <| st (zL_v (wL_loc rfl rfl rfl rfl)) <| st (sN_put (ev_store rfl rfl rfl ⟨_, rfl, rfl⟩ rfl rfl)) <| st zRet_app ?_
  exact ends_cl rfl rfl ⟨_, rfl, rfl, rfl⟩ rfl
 by_cases hn4 : n ≥ 4
 ·rw [if_pos (.inr hn4)]
  refine ⟨w.fM, w.fC, call_go (zf := G23 E1) rfl rfl (fz_vi w n) (fun _ => rfl) ?_⟩
  unfold G23
  dsimp only
  refine zpR <| st (sV_new (ev_box rfl rfl ⟨_, rfl⟩)) <| st (sV_new (ev_alloc ⟨_, rfl, rfl⟩)) <| zpA <| zpR <| st (zP_v (vInt_eq fLss_ok rfl rfl (fLss' (by omega)))) <| zph rfl <| st (zP_v vMv_eq) <| zph rfl <| st (zP_v (vInt_eq (fGen_ok (by simp) (by simp)) rfl rfl (tGeq (by omega)))) <| st (zP_v (vPick_f rfl)) <| zpt rfl <| zpR <| st (zL_v (wL_loc rfl rfl rfl rfl)) <| st (sN_put (ev_store rfl rfl rfl ⟨_, rfl, rfl⟩ rfl rfl)) <| st zRet_app ?_
  exact ends_cl rfl rfl ⟨_, rfl, rfl, rfl⟩ rfl
 rw [if_neg (by omega)]
 obtain ⟨fo, h56⟩ := c56 (k := k) [] (rep [.row 25 [w.m, w.c] false, .row 25 [.sl 0 [] true, .sl 0 [] true] false, .dead]) (n, lastM n w.M 0 + 1) w.M w.fM (by omega) (by omega)
 refine ⟨fo, w.fC, call_go (zf := G23 E1) rfl rfl (fz_vi w n) (fun _ => rfl) ?_⟩
 unfold G23
 dsimp only
 refine zpR <| st (sV_new (ev_box rfl rfl ⟨_, rfl⟩)) <| st (sV_new (ev_alloc ⟨_, rfl, rfl⟩)) <| zpA <| zpR <| st (zP_v (vInt_eq fLss_ok rfl rfl (fLss' (by omega)))) <| zph rfl <| st (zP_v vMv_eq) <| zph rfl <| st (zP_v (vInt_eq (fGen_ok (by simp) (by simp)) rfl rfl (fGeq' (by omega)))) <| st (zP_v (vPick_f rfl)) <| zpf rfl <| zpK <| zpR <| zpV <| zpA <| zpR <| zpV <| st zBlock_app ?_
 refine loop23 w n _ _ rfl (by omega) w.M.length 0 (k + 1) _ 0 (by omega) (by omega) (fun L i' => ?_)
 rw [List.drop_zero]
 refine st (ifZ_pos rfl) <| zpA <| st zDreg_eq <| st (zPD_v (vFieldAddr_loc rfl)) <| st (zLD_v (wL_loc rfl rfl rfl rfl) rfl (by kernel_rfl)) <| st (zPD_v (vInt_eq fAdd_ok rfl rfl (aAddU1 (by omega)))) <| st (dP_val (a := Acc.none) rfl rfl) <| st (cP_idle rfl h56 rfl) <| st (zPD_v (vFieldAddr_loc rfl)) <| st (zLD_v (wL_loc rfl rfl rfl rfl) rfl (by kernel_rfl)) <| st (dP_val (a := Acc.none) rfl rfl) <| st (dN_put (ev_store rfl rfl rfl ⟨_, rfl, rfl⟩ rfl rfl) rfl (by kernel_rfl)) <| st zRet_app ?_
 exact ends_cl rfl rfl ⟨_, rfl, rfl, rfl⟩ rfl
set_option maxHeartbeats 2000000 in
theorem c27 {k : Nat} (Y : YE) (T : TH) (w : VwT) (key : List Nat) (n : Int) (hk : 1000 ≤ k) (hw : OkV w) (ht : lastC key w.C 0 + 1 < 18446744073709551616) :
  ∃ f1 f2, CY k Y (.func 27) [w.av, .str key, iV n] T = some ((VwT.mk w.M (if key.length < 1 ∨ key.length > 8 ∨ (lastC key w.C 0 = 0 ∧ w.C.length ≥ 40) then w.C else insC gJ (key, lastC key w.C 0 + 1, (min (max n 1) 3).toNat) w.C) f1 f2).av, T, ⟨[], [], false⟩) := by
 obtain ⟨k, rfl⟩ : ∃ j, k = j + 1 + 1 := ⟨k - 2, by omega⟩
 have := hw.m; have := hw.c
 have hcv : IntKind.u64.wrap (max 1 (min n 3)) = (((min (max n 1) 3).toNat : Nat) : Int) := by rw [wu64 (by omega)]; omega
 obtain ⟨fo, h57⟩ := c57 (k := k) [] (rep [.row 25 [w.m, w.c] false, .row 25 [.sl 0 [] true, .sl 0 [] true] false, .dead]) (key, lastC key w.C 0 + 1, (min (max n 1) 3).toNat) w.C w.fC (by omega) (by omega)
 have hz : ∀ f2 C, (C = if key.length < 1 ∨ key.length > 8 ∨ (lastC key w.C 0 = 0 ∧ w.C.length ≥ 40) then w.C else insC gJ (key, lastC key w.C 0 + 1, (min (max n 1) 3).toNat) w.C) → f2 = (if key.length < 1 ∨ key.length > 8 ∨ (lastC key w.C 0 = 0 ∧ w.C.length ≥ 40) then w.fC else fo) → Px.Ends E1 (VwT.mk w.M C w.fM f2).av ((G27 E1).z (CY (k + 1)) [] (k + 1) (finZ E1 (G27 E1).res) (fun _ _ _ _ => none) (finZ E1 (G27 E1).res) [] [w.av, .undef, .undef, .str key, .undef, .undef, iV n] (rep [])) := fun f2 C hC hf => by
  unfold G27
  dsimp only
  refine zpR <| st (sV_new (ev_box rfl rfl ⟨_, rfl⟩)) <| st (sV_new (ev_alloc ⟨_, rfl, rfl⟩)) <| zpR <| zpV <| zpA <| zpR <| zpV <| st zBlock_app ?_
  refine loop27 w key n _ _ rfl (by omega) w.C.length 0 (k + 1) _ 0 (by omega) (by omega) (fun L i' => ?_)
  rw [List.drop_zero]
  by_cases h1 : key.length < 1
  ·rw [if_pos (.inl h1)] at hC hf
   subst hC hf
   refine st (ifZ_pos rfl) <| zpA <| zpR <| st (zP_v (vLenS_eq rfl)) <| st (zP_v (vInt_eq fLss_ok rfl rfl (tLss (by omega)))) <| zpm rfl <| zpm rfl <| zpm rfl <| st (zP_v (vPick_t rfl)) <| zpm rfl <| zpm rfl <| zpm rfl <| st (zG_skip rfl) <| st (zG_skip rfl) <| st (zG_skip rfl) <| st (zG_skip rfl) <| zpm rfl <| st (zP_v (vPick_t rfl)) <| zpt rfl <| zpR <| st (zL_v (wL_loc rfl rfl rfl rfl)) <| st (sN_put (ev_store rfl rfl rfl ⟨_, rfl, rfl⟩ rfl rfl)) <| st zRet_app ?_
   exact ends_cl rfl rfl ⟨_, rfl, rfl, rfl⟩ rfl
  by_cases h2 : key.length > 8
  ·rw [if_pos (.inr (.inl h2))] at hC hf
   subst hC hf
   refine st (ifZ_pos rfl) <| zpA <| zpR <| st (zP_v (vLenS_eq rfl)) <| st (zP_v (vInt_eq fLss_ok rfl rfl (fLss' (by omega)))) <| zph rfl <| st (zP_v vMv_eq) <| zph rfl <| st (zP_v (vLenS_eq rfl)) <| zph rfl <| st (zP_v (vInt_eq fGtr_ok rfl rfl (tGtr (by omega)))) <| st (zP_v (vPick_f rfl)) <| zpm rfl <| zpm rfl <| zpm rfl <| st (zG_skip rfl) <| st (zG_skip rfl) <| st (zG_skip rfl) <| st (zG_skip rfl) <| zpm rfl <| st (zP_v (vPick_t rfl)) <| zpt rfl <| zpR <| st (zL_v (wL_loc rfl rfl rfl rfl)) ?_
   refine st (sN_put (ev_store rfl rfl rfl ⟨_, rfl, rfl⟩ rfl rfl)) <| st zRet_app ?_
   exact ends_cl rfl rfl ⟨_, rfl, rfl, rfl⟩ rfl
  by_cases h3 : lastC key w.C 0 = 0
  ·by_cases h4 : w.C.length ≥ 40
   ·rw [if_pos (.inr (.inr ⟨h3, h4⟩))] at hC hf
    subst hC hf
    refine st (ifZ_pos rfl) <| zpA <| zpR <| st (zP_v (vLenS_eq rfl)) <| st (zP_v (vInt_eq fLss_ok rfl rfl (fLss' (by omega)))) <| zph rfl <| st (zP_v vMv_eq) <| zph rfl <| st (zP_v (vLenS_eq rfl)) <| zph rfl <| st (zP_v (vInt_eq fGtr_ok rfl rfl (fGtr' (by omega)))) <| st (zP_v (vPick_f rfl)) <| zph rfl <| st (zP_v vMv_eq) <| zph rfl <| st (zP_v (vInt_eq fEql_ok rfl rfl (tEql (by omega)))) <| zph rfl <| st (zP_v vMv_eq) <| zph rfl <| st (zP_v (vFieldAddr_loc rfl)) <| zph rfl <| st (zL_v (wL_loc rfl rfl rfl rfl)) <| zph rfl <| st (zP_v (vLenL_sl rfl)) ?_
    refine zph rfl <| st (zP_v (vInt_eq (fGen_ok (by simp) (by simp)) rfl rfl (tGeq (by omega)))) <| zph rfl <| st (zP_v (vPick_t rfl)) <| st (zP_v (vPick_f rfl)) <| zpt rfl <| zpR <| st (zL_v (wL_loc rfl rfl rfl rfl)) <| st (sN_put (ev_store rfl rfl rfl ⟨_, rfl, rfl⟩ rfl rfl)) <| st zRet_app ?_
    exact ends_cl rfl rfl ⟨_, rfl, rfl, rfl⟩ rfl
   ·rw [if_neg (by intro h; rcases h with h | h | h <;> omega)] at hC hf
    subst hC hf
    refine st (ifZ_pos rfl) <| zpA <| zpR <| st (zP_v (vLenS_eq rfl)) <| st (zP_v (vInt_eq fLss_ok rfl rfl (fLss' (by omega)))) <| zph rfl <| st (zP_v vMv_eq) <| zph rfl <| st (zP_v (vLenS_eq rfl)) <| zph rfl <| st (zP_v (vInt_eq fGtr_ok rfl rfl (fGtr' (by omega)))) <| st (zP_v (vPick_f rfl)) <| zph rfl <| st (zP_v vMv_eq) <| zph rfl <| st (zP_v (vInt_eq fEql_ok rfl rfl (tEql (by omega)))) <| zph rfl <| st (zP_v vMv_eq) <| zph rfl <| st (zP_v (vFieldAddr_loc rfl)) <| zph rfl <| st (zL_v (wL_loc rfl rfl rfl rfl)) <| zph rfl <| st (zP_v (vLenL_sl rfl)) ?_
    refine zph rfl <| st (zP_v (vInt_eq (fGen_ok (by simp) (by simp)) rfl rfl (fGeq' (by omega)))) <| zph rfl <| st (zP_v (vPick_t rfl)) <| st (zP_v (vPick_f rfl)) <| zpf rfl <| zpK <| zpA <| st zDreg_eq <| st (zPD_v (vFieldAddr_loc rfl)) <| st (zLD_v (wL_loc rfl rfl rfl rfl) rfl (by kernel_rfl)) <| st (zPD_v (vFieldAddr_loc rfl)) <| st (zLD_v (wL_loc rfl rfl rfl rfl) rfl (by kernel_rfl)) <| st (zPD_v (vInt_eq fAdd_ok rfl rfl (aAddU1 (by omega)))) <| st (dP_val (ev_min rfl rfl) rfl) <| st (dP_val (ev_max rfl rfl) rfl) <| st (zPD_v (vConvX rfl hcv)) <| st (dP_val (a := Acc.none) rfl rfl) <| st (cP_idle rfl h57 rfl) <| st (dP_val (a := Acc.none) rfl rfl) <| st (dN_put (ev_store rfl rfl rfl ⟨_, rfl, rfl⟩ rfl rfl) rfl (by kernel_rfl)) <| st zRet_app ?_
    exact ends_cl rfl rfl ⟨_, rfl, rfl, rfl⟩ rfl
  ·rw [if_neg (by intro h; rcases h with h | h | h <;> omega)] at hC hf
   subst hC hf
   refine st (ifZ_pos rfl) <| zpA <| zpR <| st (zP_v (vLenS_eq rfl)) <| st (zP_v (vInt_eq fLss_ok rfl rfl (fLss' (by omega)))) <| zph rfl <| st (zP_v vMv_eq) <| zph rfl <| st (zP_v (vLenS_eq rfl)) <| zph rfl <| st (zP_v (vInt_eq fGtr_ok rfl rfl (fGtr' (by omega)))) <| st (zP_v (vPick_f rfl)) <| zph rfl <| st (zP_v vMv_eq) <| zph rfl <| st (zP_v (vInt_eq fEql_ok rfl rfl (fEql' (by omega)))) <| zph rfl <| st (zP_v vMv_eq) <| zpm rfl <| zpm rfl <| zpm rfl <| zpm rfl <| zph rfl <| st (zP_v (vPick_f rfl)) ?_
   refine st (zP_v (vPick_f rfl)) <| zpf rfl <| zpK <| zpA <| st zDreg_eq <| st (zPD_v (vFieldAddr_loc rfl)) <| st (zLD_v (wL_loc rfl rfl rfl rfl) rfl (by kernel_rfl)) <| st (zPD_v (vFieldAddr_loc rfl)) <| st (zLD_v (wL_loc rfl rfl rfl rfl) rfl (by kernel_rfl)) <| st (zPD_v (vInt_eq fAdd_ok rfl rfl (aAddU1 (by omega)))) <| st (dP_val (ev_min rfl rfl) rfl) <| st (dP_val (ev_max rfl rfl) rfl) <| st (zPD_v (vConvX rfl hcv)) <| st (dP_val (a := Acc.none) rfl rfl) <| st (cP_idle rfl h57 rfl) <| st (dP_val (a := Acc.none) rfl rfl) <| st (dN_put (ev_store rfl rfl rfl ⟨_, rfl, rfl⟩ rfl rfl) rfl (by kernel_rfl)) <| st zRet_app ?_
   exact ends_cl rfl rfl ⟨_, rfl, rfl, rfl⟩ rfl
 exact ⟨w.fM, _, call_go (zf := G27 E1) rfl rfl (fun g => rfl) (fun _ => rfl) (hz _ _ rfl rfl)⟩
end Go.Proofs.PxV2
