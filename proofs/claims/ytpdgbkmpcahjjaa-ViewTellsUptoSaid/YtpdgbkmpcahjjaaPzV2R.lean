/- Views: found, set (walks by zauto). -/
import Derived.Test.YtpdgbkmpcahjjaaPzV2Q
set_option linter.unusedVariables false
set_option linter.unusedSimpArgs false
set_option maxRecDepth 100000
namespace Go.Proofs.PxV2
open Go Go.Px Go.Proofs
def findC (C : List Cop) (key : List Nat) : Cop := (C.find? fun c => c.1 == key).getD ([], 0, 0)
def hasC (C : List Cop) (key : List Nat) : Bool := (C.find? fun c => c.1 == key).isSome
theorem c60f {k : Nat} (Y : YE) (T : TH) (w : VwT) (key : List Nat) (hC : SortedC w.C) (hl : w.C.length < 100000) (hk : w.C.length + 6 ≤ k) :
  CY k Y (.func 60) [w.av, .str key] T = some (.tup [copA (findC w.C key), .bool (hasC w.C key)], T, ⟨[], [], false⟩) := by
 obtain ⟨k, rfl⟩ : ∃ j, k = j + 4 + 1 := ⟨k - 5, by omega⟩
 have h75 := c75 (k := k) [] (rep []) w key 0 0 hC hl (by omega)
 obtain ⟨h1, h2⟩ := find_pos (key := key) hC
 have hcl := copC_len w.C
 refine call_go (zf := G60 E1) rfl rfl (fun g => flat_view2 w key g) (fun _ => rfl) ?_
 unfold G60
 dsimp only
 cases hh : hitC key w.C with
 | true =>
  obtain ⟨c, hc, hf⟩ := h1 hh
  have hlt := (List.getElem?_eq_some_iff.1 hc).1
  rw [hh] at h75
  rw [show findC w.C key = c by unfold findC; rw [hf]; rfl, show hasC w.C key = true by unfold hasC; rw [hf]; rfl]
  refine zpR <| st (sV_new (ev_box rfl rfl ⟨_, rfl⟩)) <| st (sV_new (ev_alloc ⟨_, rfl, rfl⟩)) <| zpV <| zpR <| st (zP_v (vFieldAddr_loc rfl)) <| st (zL_v (wL_loc rfl rfl rfl rfl)) <| st (sP_val (a := Acc.none) rfl) <| st (cP_call rfl (call_fzF h75 rfl (fun _ => rfl) rfl rfl)) <| st (zP_v (vExtract_eq rfl rfl)) <| st (zP_v (vExtract_eq rfl rfl)) <| zpV <| zpV <| zpA <| zpR <| st (zP_v (vNot_eq rfl)) <| zpf rfl <| zpK <| zpR <| st (zP_v (vFieldAddr_loc rfl)) <| st (zL_v (wL_loc rfl rfl rfl rfl)) <| st (zP_v (vIndexAddr_sl rfl rfl (by omega) (by omega))) ?_
  rw [cop_at hc]
  refine st (zL_v (wL_ref rfl rfl rfl)) <| st (sN_put (ev_store rfl rfl rfl ⟨_, rfl, rfl⟩ rfl rfl)) <| zpV <| st zRet_app ?_
  exact ⟨_, _, _, rfl, rfl⟩
 | false =>
  have hf := h2 hh
  rw [hh] at h75
  rw [show findC w.C key = ([], 0, 0) by unfold findC; rw [hf]; rfl, show hasC w.C key = false by unfold hasC; rw [hf]; rfl]
  refine zpR <| st (sV_new (ev_box rfl rfl ⟨_, rfl⟩)) <| st (sV_new (ev_alloc ⟨_, rfl, rfl⟩)) <| zpV <| zpR <| st (zP_v (vFieldAddr_loc rfl)) <| st (zL_v (wL_loc rfl rfl rfl rfl)) <| st (sP_val (a := Acc.none) rfl) <| st (cP_call rfl (call_fzF h75 rfl (fun _ => rfl) rfl rfl)) <| st (zP_v (vExtract_eq rfl rfl)) <| st (zP_v (vExtract_eq rfl rfl)) <| zpV <| zpV <| zpA <| zpR <| st (zP_v (vNot_eq rfl)) <| zpt rfl <| zpR <| st (sP_val (a := Acc.none) rfl) <| st (sN_put (ev_store rfl rfl rfl ⟨_, rfl, rfl⟩ rfl rfl)) <| zpV <| st zRet_app ?_
  exact ⟨_, _, _, rfl, rfl⟩
theorem seqF {s t : List Nat} {c1 c2 : Bool} (h : ¬ s = t) : binB E1 .eql 9 c1 c2 (.str s) (.str t) = some (.bool false) := by
 show some (AV.bool (s == t)) = _
 rw [beq_eq_false_iff_ne.2 h]
def setW (w : VwT) (key : List Nat) (n : Int) : List Mem × List Cop :=
 if key = [] ∨ key.length > 8 ∨ (hasC w.C key = false ∧ w.C.length ≥ 40) then (w.M, w.C) else (w.M, mergeC gS w.C [(key, (findC w.C key).2.1 + 1, (min (max n 1) 3).toNat)])
theorem fz_vsi (w : VwT) (key : List Nat) (n : Int) (g : Nat → Option AO) : fzL (fzG E1 g fzDeep) [w.av, .str key, iV n] = some ([w.av, .str key, iV n], []) := rfl
set_option maxHeartbeats 8000000 in
theorem c26 {k : Nat} (Y : YE) (T : TH) (w : VwT) (key : List Nat) (n : Int) (hk : 1000 ≤ k) (hw : OkV w) (htop : (findC w.C key).2.1 + 1 < 18446744073709551616) :
  ∃ f1 f2, CY k Y (.func 26) [w.av, .str key, iV n] T = some ((VwT.mk (setW w key n).1 (setW w key n).2 f1 f2).av, T, ⟨[], [], false⟩) := by
 obtain ⟨k, rfl⟩ : ∃ j, k = j + 7 + 1 := ⟨k - 8, by omega⟩
 have hm := hw.m; have hc := hw.c
 have h60 := c60f (k := k + 7) [] (rep [.row 25 [w.m, w.c] false, .row 25 [.sl 0 [] true, .sl 0 [] true] false]) w key hw.s (by omega) (by omega)
 unfold setW
 by_cases h1 : key = []
 ·rw [if_pos (.inl h1)]
  refine ⟨w.fM, w.fC, call_go (zf := G26 E1) rfl rfl (fz_vsi w key n) (fun _ => rfl) ?_⟩
  unfold G26
  dsimp only
  subst h1
  refine zpR <| st (sV_new (ev_box rfl rfl ⟨_, rfl⟩)) <| st (sV_new (ev_alloc ⟨_, rfl, rfl⟩)) <| zpR <| st (zL_v (wL_loc rfl rfl rfl rfl)) <| st (cP_call rfl h60) <| st (zP_v (vExtract_eq rfl rfl)) <| st (zP_v (vExtract_eq rfl rfl)) <| st (sV_new (ev_alloc ⟨_, rfl, rfl⟩)) <| st (sN_put (ev_store rfl rfl rfl ⟨_, rfl, rfl⟩ rfl rfl)) <| zpV <| zpA <| zpR <| st (zP_v (vInt_bin rfl rfl rfl)) <| zpm rfl <| zpm rfl <| zpm rfl <| st (zP_v (vPick_t rfl)) <| zpm rfl <| zpm rfl <| zpm rfl <| st (zG_skip rfl) <| st (zG_skip rfl) <| st (zG_skip rfl) ?_
  refine st (zG_skip rfl) <| zpm rfl <| st (zP_v (vPick_t rfl)) <| zpt rfl <| zpR <| st (zL_v (wL_loc rfl rfl rfl rfl)) <| st (sN_put (ev_store rfl rfl rfl ⟨_, rfl, rfl⟩ rfl rfl)) <| st zRet_app ?_
  exact ends_cl rfl rfl ⟨_, rfl, rfl, rfl⟩ rfl
 by_cases h2 : key.length > 8
 ·rw [if_pos (.inr (.inl h2))]
  refine ⟨w.fM, w.fC, call_go (zf := G26 E1) rfl rfl (fz_vsi w key n) (fun _ => rfl) ?_⟩
  unfold G26
  dsimp only
  refine zpR <| st (sV_new (ev_box rfl rfl ⟨_, rfl⟩)) <| st (sV_new (ev_alloc ⟨_, rfl, rfl⟩)) <| zpR <| st (zL_v (wL_loc rfl rfl rfl rfl)) <| st (cP_call rfl h60) <| st (zP_v (vExtract_eq rfl rfl)) <| st (zP_v (vExtract_eq rfl rfl)) <| st (sV_new (ev_alloc ⟨_, rfl, rfl⟩)) <| st (sN_put (ev_store rfl rfl rfl ⟨_, rfl, rfl⟩ rfl rfl)) <| zpV <| zpA <| zpR <| st (zP_v (vInt_bin rfl rfl (seqF h1))) <| zph rfl <| st (zP_v vMv_eq) <| zph rfl <| st (zP_v (vLenS_eq rfl)) <| zph rfl <| st (zP_v (vInt_eq fGtr_ok rfl rfl (tGtr (by omega)))) <| st (zP_v (vPick_f rfl)) <| zpm rfl <| zpm rfl <| zpm rfl ?_
  refine st (zG_skip rfl) <| st (zG_skip rfl) <| st (zG_skip rfl) <| st (zG_skip rfl) <| zpm rfl <| st (zP_v (vPick_t rfl)) <| zpt rfl <| zpR <| st (zL_v (wL_loc rfl rfl rfl rfl)) <| st (sN_put (ev_store rfl rfl rfl ⟨_, rfl, rfl⟩ rfl rfl)) <| st zRet_app ?_
  exact ends_cl rfl rfl ⟨_, rfl, rfl, rfl⟩ rfl
 by_cases h3 : hasC w.C key = false ∧ w.C.length ≥ 40
 ·rw [if_pos (.inr (.inr h3))]
  obtain ⟨h3, h4⟩ := h3
  refine ⟨w.fM, w.fC, call_go (zf := G26 E1) rfl rfl (fz_vsi w key n) (fun _ => rfl) ?_⟩
  unfold G26
  dsimp only
  refine zpR <| st (sV_new (ev_box rfl rfl ⟨_, rfl⟩)) <| st (sV_new (ev_alloc ⟨_, rfl, rfl⟩)) <| zpR <| st (zL_v (wL_loc rfl rfl rfl rfl)) <| st (cP_call rfl h60) <| st (zP_v (vExtract_eq rfl rfl)) <| st (zP_v (vExtract_eq rfl rfl)) <| st (sV_new (ev_alloc ⟨_, rfl, rfl⟩)) <| st (sN_put (ev_store rfl rfl rfl ⟨_, rfl, rfl⟩ rfl rfl)) <| zpV <| zpA <| zpR <| st (zP_v (vInt_bin rfl rfl (seqF h1))) <| zph rfl <| st (zP_v vMv_eq) <| zph rfl <| st (zP_v (vLenS_eq rfl)) <| zph rfl <| st (zP_v (vInt_eq fGtr_ok rfl rfl (fGtr' (by omega)))) <| st (zP_v (vPick_f rfl)) <| zph rfl <| st (zP_v vMv_eq) <| zph rfl ?_
  refine st (zP_v (vNot_eq rfl)) <| zph rfl <| st (zP_v vMv_eq) <| st (zG_hit (bAVn h3)) <| st (zP_v (vFieldAddr_loc rfl)) <| st (zG_hit (bAVn h3)) <| st (zL_v (wL_loc rfl rfl rfl rfl)) <| st (zG_hit (bAVn h3)) <| st (zP_v (vLenL_sl rfl)) <| st (zG_hit (bAVn h3)) <| st (zP_v (vInt_eq (fGen_ok (by simp) (by simp)) rfl rfl (tGeq (by omega)))) <| zph rfl <| st (zP_v (vPick_t (bAVn h3))) <| st (zP_v (vPick_f rfl)) <| zpt rfl <| zpR <| st (zL_v (wL_loc rfl rfl rfl rfl)) <| st (sN_put (ev_store rfl rfl rfl ⟨_, rfl, rfl⟩ rfl rfl)) <| st zRet_app ?_
  exact ends_cl rfl rfl ⟨_, rfl, rfl, rfl⟩ rfl
 rw [if_neg (by intro h; rcases h with h | h | h <;> contradiction)]
 obtain ⟨f2, h49, _⟩ := c49m (k := k + 2) [] (rep []) 62 gS rfl (fun T c d => g62 T c d) gS_key w.C [(key, (findC w.C key).2.1 + 1, (min (max n 1) 3).toNat)] w.fC false hw.s (by simp; omega) (by simp; omega)
 have hcv : IntKind.u64.wrap (min (max n 1) 3) = (((min (max n 1) 3).toNat : Nat) : Int) := by rw [wu64 (by omega)]; omega
 refine ⟨w.M.isEmpty, f2, call_go (zf := G26 E1) rfl rfl (fz_vsi w key n) (fun _ => rfl) ?_⟩
 have hz : ∀ b : Bool, hasC w.C key = b → Px.Ends E1 (VwT.mk w.M (mergeC gS w.C [(key, (findC w.C key).2.1 + 1, (min (max n 1) 3).toNat)]) w.M.isEmpty f2).av ((G26 E1).z (CY (k + 7)) [] (k + 7) (finZ E1 [.cell (.v 4) 25]) (fun _ _ _ _ => none) (finZ E1 [.cell (.v 4) 25]) [] [w.av, .undef, .str key, .undef, .undef, .undef, iV n, .undef] (rep [])) := fun b hb => by
  have hlt : b = false → w.C.length < 40 := fun e => by
   rcases Nat.lt_or_ge w.C.length 40 with h | h
   ·exact h
   ·exact absurd ⟨hb.trans e, h⟩ h3
  unfold G26
  dsimp only
  by_cases hM : w.M = []
  ·rw [show (VwT.mk w.M (mergeC gS w.C [(key, (findC w.C key).2.1 + 1, (min (max n 1) 3).toNat)]) w.M.isEmpty f2).av = .agg [.sl 0 [] true, .sl (mergeC gS w.C [(key, (findC w.C key).2.1 + 1, (min (max n 1) 3).toNat)]).length (copC (mergeC gS w.C [(key, (findC w.C key).2.1 + 1, (min (max n 1) 3).toNat)])) f2] by rw [hM]; rfl]
   cases b with
   | true =>
    refine zpR <| st (sV_new (ev_box rfl rfl ⟨_, rfl⟩)) <| st (sV_new (ev_alloc ⟨_, rfl, rfl⟩)) <| zpR <| st (zL_v (wL_loc rfl rfl rfl rfl)) <| st (cP_call rfl h60) <| st (zP_v (vExtract_eq rfl rfl)) <| st (zP_v (vExtract_eq rfl rfl)) <| st (sV_new (ev_alloc ⟨_, rfl, rfl⟩)) <| st (sN_put (ev_store rfl rfl rfl ⟨_, rfl, rfl⟩ rfl rfl)) <| zpV <| zpA <| zpR <| st (zP_v (vInt_bin rfl rfl (seqF h1))) <| zph rfl <| st (zP_v vMv_eq) <| zph rfl <| st (zP_v (vLenS_eq rfl)) <| zph rfl <| st (zP_v (vInt_eq fGtr_ok rfl rfl (fGtr' (by omega)))) <| st (zP_v (vPick_f rfl)) <| zph rfl <| st (zP_v vMv_eq) <| zph rfl ?_
    refine st (zP_v (vNot_eq rfl)) <| zph rfl <| st (zP_v vMv_eq) <| st (zG_miss (bAVn hb)) <| st (zG_miss (bAVn hb)) <| st (zG_miss (bAVn hb)) <| st (zG_miss (bAVn hb)) <| zph rfl <| st (zP_v (vPick_f (bAVn hb))) <| st (zP_v (vPick_f rfl)) <| zpf rfl <| zpK <| zpR <| st (zP_v (vFieldAddr_loc rfl)) <| st (zL_v (wL_loc rfl rfl rfl rfl)) <| st (zP_v (vInt_eq fAdd_ok rfl rfl (aAddU1 (by omega)))) <| st (sP_val (ev_max rfl rfl)) <| st (sP_val (ev_min rfl rfl)) <| st (zP_v (vConvX rfl hcv)) <| st (sP_val (a := Acc.none) rfl) <| st (sV_new (ev_alloc ⟨_, rfl, rfl⟩)) <| st (sN_put (ev_store rfl rfl rfl ⟨_, rfl, rfl⟩ rfl rfl)) <| zpA <| st zDreg_eq ?_
    refine st (zPD_v (vFieldAddr_loc rfl)) <| st (zLD_v (wL_loc rfl rfl rfl rfl) rfl (by kernel_rfl)) <| st (dClone61n rfl hM) <| st (zPD_v (vFieldAddr_loc rfl)) <| st (zLD_v (wL_loc rfl rfl rfl rfl) rfl (by kernel_rfl)) <| st (zLD_v (wL_loc rfl rfl rfl rfl) rfl (by kernel_rfl)) <| st (dP_new rfl rfl (by kernel_rfl)) <| st (cP_acc rfl (call_fzN h49 rfl (fun _ => rfl) rfl rfl) rfl (by kernel_rfl)) <| st (dP_val (a := Acc.none) rfl rfl) <| st (dN_put (ev_store rfl rfl rfl ⟨_, rfl, rfl⟩ rfl rfl) rfl (by kernel_rfl)) <| st zRet_app ?_
    exact ends_cl rfl rfl ⟨_, rfl, rfl, rfl⟩ rfl
   | false =>
    have hlt := hlt rfl
    refine zpR <| st (sV_new (ev_box rfl rfl ⟨_, rfl⟩)) <| st (sV_new (ev_alloc ⟨_, rfl, rfl⟩)) <| zpR <| st (zL_v (wL_loc rfl rfl rfl rfl)) <| st (cP_call rfl h60) <| st (zP_v (vExtract_eq rfl rfl)) <| st (zP_v (vExtract_eq rfl rfl)) <| st (sV_new (ev_alloc ⟨_, rfl, rfl⟩)) <| st (sN_put (ev_store rfl rfl rfl ⟨_, rfl, rfl⟩ rfl rfl)) <| zpV <| zpA <| zpR <| st (zP_v (vInt_bin rfl rfl (seqF h1))) <| zph rfl <| st (zP_v vMv_eq) <| zph rfl <| st (zP_v (vLenS_eq rfl)) <| zph rfl <| st (zP_v (vInt_eq fGtr_ok rfl rfl (fGtr' (by omega)))) <| st (zP_v (vPick_f rfl)) <| zph rfl <| st (zP_v vMv_eq) <| zph rfl ?_
    refine st (zP_v (vNot_eq rfl)) <| zph rfl <| st (zP_v vMv_eq) <| st (zG_hit (bAVn hb)) <| st (zP_v (vFieldAddr_loc rfl)) <| st (zG_hit (bAVn hb)) <| st (zL_v (wL_loc rfl rfl rfl rfl)) <| st (zG_hit (bAVn hb)) <| st (zP_v (vLenL_sl rfl)) <| st (zG_hit (bAVn hb)) <| st (zP_v (vInt_eq (fGen_ok (by simp) (by simp)) rfl rfl (fGeq' (by omega)))) <| zph rfl <| st (zP_v (vPick_t (bAVn hb))) <| st (zP_v (vPick_f rfl)) <| zpf rfl <| zpK <| zpR <| st (zP_v (vFieldAddr_loc rfl)) <| st (zL_v (wL_loc rfl rfl rfl rfl)) <| st (zP_v (vInt_eq fAdd_ok rfl rfl (aAddU1 (by omega)))) <| st (sP_val (ev_max rfl rfl)) <| st (sP_val (ev_min rfl rfl)) <| st (zP_v (vConvX rfl hcv)) <| st (sP_val (a := Acc.none) rfl) ?_
    refine st (sV_new (ev_alloc ⟨_, rfl, rfl⟩)) <| st (sN_put (ev_store rfl rfl rfl ⟨_, rfl, rfl⟩ rfl rfl)) <| zpA <| st zDreg_eq <| st (zPD_v (vFieldAddr_loc rfl)) <| st (zLD_v (wL_loc rfl rfl rfl rfl) rfl (by kernel_rfl)) <| st (dClone61n rfl hM) <| st (zPD_v (vFieldAddr_loc rfl)) <| st (zLD_v (wL_loc rfl rfl rfl rfl) rfl (by kernel_rfl)) <| st (zLD_v (wL_loc rfl rfl rfl rfl) rfl (by kernel_rfl)) <| st (dP_new rfl rfl (by kernel_rfl)) <| st (cP_acc rfl (call_fzN h49 rfl (fun _ => rfl) rfl rfl) rfl (by kernel_rfl)) <| st (dP_val (a := Acc.none) rfl rfl) <| st (dN_put (ev_store rfl rfl rfl ⟨_, rfl, rfl⟩ rfl rfl) rfl (by kernel_rfl)) <| st zRet_app ?_
    exact ends_cl rfl rfl ⟨_, rfl, rfl, rfl⟩ rfl
  ·rw [show w.M.isEmpty = false by simpa using hM]
   cases b with
   | true =>
    refine zpR <| st (sV_new (ev_box rfl rfl ⟨_, rfl⟩)) <| st (sV_new (ev_alloc ⟨_, rfl, rfl⟩)) <| zpR <| st (zL_v (wL_loc rfl rfl rfl rfl)) <| st (cP_call rfl h60) <| st (zP_v (vExtract_eq rfl rfl)) <| st (zP_v (vExtract_eq rfl rfl)) <| st (sV_new (ev_alloc ⟨_, rfl, rfl⟩)) <| st (sN_put (ev_store rfl rfl rfl ⟨_, rfl, rfl⟩ rfl rfl)) <| zpV <| zpA <| zpR <| st (zP_v (vInt_bin rfl rfl (seqF h1))) <| zph rfl <| st (zP_v vMv_eq) <| zph rfl <| st (zP_v (vLenS_eq rfl)) <| zph rfl <| st (zP_v (vInt_eq fGtr_ok rfl rfl (fGtr' (by omega)))) <| st (zP_v (vPick_f rfl)) <| zph rfl <| st (zP_v vMv_eq) <| zph rfl ?_
    refine st (zP_v (vNot_eq rfl)) <| zph rfl <| st (zP_v vMv_eq) <| st (zG_miss (bAVn hb)) <| st (zG_miss (bAVn hb)) <| st (zG_miss (bAVn hb)) <| st (zG_miss (bAVn hb)) <| zph rfl <| st (zP_v (vPick_f (bAVn hb))) <| st (zP_v (vPick_f rfl)) <| zpf rfl <| zpK <| zpR <| st (zP_v (vFieldAddr_loc rfl)) <| st (zL_v (wL_loc rfl rfl rfl rfl)) <| st (zP_v (vInt_eq fAdd_ok rfl rfl (aAddU1 (by omega)))) <| st (sP_val (ev_max rfl rfl)) <| st (sP_val (ev_min rfl rfl)) <| st (zP_v (vConvX rfl hcv)) <| st (sP_val (a := Acc.none) rfl) <| st (sV_new (ev_alloc ⟨_, rfl, rfl⟩)) <| st (sN_put (ev_store rfl rfl rfl ⟨_, rfl, rfl⟩ rfl rfl)) <| zpA <| st zDreg_eq ?_
    refine st (zPD_v (vFieldAddr_loc rfl)) <| st (zLD_v (wL_loc rfl rfl rfl rfl) rfl (by kernel_rfl)) <| st (dClone61 rfl hM (by omega) (by kernel_rfl)) <| st (zPD_v (vFieldAddr_loc rfl)) <| st (zLD_v (wL_loc rfl rfl rfl rfl) rfl (by kernel_rfl)) <| st (zLD_v (wL_loc rfl rfl rfl rfl) rfl (by kernel_rfl)) <| st (dP_new rfl rfl (by kernel_rfl)) <| st (cP_acc rfl (call_fzN h49 rfl (fun _ => rfl) rfl rfl) rfl (by kernel_rfl)) <| st (dP_val (a := Acc.none) rfl rfl) <| st (dN_put (ev_store rfl rfl rfl ⟨_, rfl, rfl⟩ rfl rfl) rfl (by kernel_rfl)) <| st zRet_app ?_
    exact ends_cl rfl rfl ⟨_, rfl, rfl, rfl⟩ (fz_agg2 (k := 59) (fzG_ownX (k := 58) rfl (memC_len _) (fzL_memC _ 57 _)) rfl)
   | false =>
    have hlt := hlt rfl
    refine zpR <| st (sV_new (ev_box rfl rfl ⟨_, rfl⟩)) <| st (sV_new (ev_alloc ⟨_, rfl, rfl⟩)) <| zpR <| st (zL_v (wL_loc rfl rfl rfl rfl)) <| st (cP_call rfl h60) <| st (zP_v (vExtract_eq rfl rfl)) <| st (zP_v (vExtract_eq rfl rfl)) <| st (sV_new (ev_alloc ⟨_, rfl, rfl⟩)) <| st (sN_put (ev_store rfl rfl rfl ⟨_, rfl, rfl⟩ rfl rfl)) <| zpV <| zpA <| zpR <| st (zP_v (vInt_bin rfl rfl (seqF h1))) <| zph rfl <| st (zP_v vMv_eq) <| zph rfl <| st (zP_v (vLenS_eq rfl)) <| zph rfl <| st (zP_v (vInt_eq fGtr_ok rfl rfl (fGtr' (by omega)))) <| st (zP_v (vPick_f rfl)) <| zph rfl <| st (zP_v vMv_eq) <| zph rfl ?_
    refine st (zP_v (vNot_eq rfl)) <| zph rfl <| st (zP_v vMv_eq) <| st (zG_hit (bAVn hb)) <| st (zP_v (vFieldAddr_loc rfl)) <| st (zG_hit (bAVn hb)) <| st (zL_v (wL_loc rfl rfl rfl rfl)) <| st (zG_hit (bAVn hb)) <| st (zP_v (vLenL_sl rfl)) <| st (zG_hit (bAVn hb)) <| st (zP_v (vInt_eq (fGen_ok (by simp) (by simp)) rfl rfl (fGeq' (by omega)))) <| zph rfl <| st (zP_v (vPick_t (bAVn hb))) <| st (zP_v (vPick_f rfl)) <| zpf rfl <| zpK <| zpR <| st (zP_v (vFieldAddr_loc rfl)) <| st (zL_v (wL_loc rfl rfl rfl rfl)) <| st (zP_v (vInt_eq fAdd_ok rfl rfl (aAddU1 (by omega)))) <| st (sP_val (ev_max rfl rfl)) <| st (sP_val (ev_min rfl rfl)) <| st (zP_v (vConvX rfl hcv)) <| st (sP_val (a := Acc.none) rfl) ?_
    refine st (sV_new (ev_alloc ⟨_, rfl, rfl⟩)) <| st (sN_put (ev_store rfl rfl rfl ⟨_, rfl, rfl⟩ rfl rfl)) <| zpA <| st zDreg_eq <| st (zPD_v (vFieldAddr_loc rfl)) <| st (zLD_v (wL_loc rfl rfl rfl rfl) rfl (by kernel_rfl)) <| st (dClone61 rfl hM (by omega) (by kernel_rfl)) <| st (zPD_v (vFieldAddr_loc rfl)) <| st (zLD_v (wL_loc rfl rfl rfl rfl) rfl (by kernel_rfl)) <| st (zLD_v (wL_loc rfl rfl rfl rfl) rfl (by kernel_rfl)) <| st (dP_new rfl rfl (by kernel_rfl)) <| st (cP_acc rfl (call_fzN h49 rfl (fun _ => rfl) rfl rfl) rfl (by kernel_rfl)) <| st (dP_val (a := Acc.none) rfl rfl) <| st (dN_put (ev_store rfl rfl rfl ⟨_, rfl, rfl⟩ rfl rfl) rfl (by kernel_rfl)) <| st zRet_app ?_
    exact ends_cl rfl rfl ⟨_, rfl, rfl, rfl⟩ (fz_agg2 (k := 59) (fzG_ownX (k := 58) rfl (memC_len _) (fzL_memC _ 57 _)) rfl)
 exact hz _ rfl
end Go.Proofs.PxV2
