/- Canon: what is right (walks by zauto). -/
import Derived.Test.YtjpllnhlpgbgmaaGreatPzM6F
set_option linter.unusedVariables false
set_option linter.unusedSimpArgs false
set_option maxRecDepth 100000
namespace Go.Proofs.PxM6
open Go Go.Px Go.Proofs
theorem c133m {k : Nat} (Y : YE) (T : TH) (s : Txt) (v : List Nat) (f1 f2 : Bool) (h : s.length = v.length) (hl : s.length ≤ 40) : CY (k + 1) Y (.func 133) [.agg (mapV s f1 v f2)] T = some (.bool false, T, ⟨[], [], false⟩) := by
 refine call_go (zf := G133 E1) rfl rfl (fun _ => rfl) (fun _ => rfl) ?_
 unfold G133 mapV
 dsimp only
 have hH : Has ([] : Heap) [] := has_nil
 refine zpR ?_
 refine qV_new hH (ev_boxQ rfl rfl ⟨_, rfl⟩) (fun _ => rfl) fun n1 Hn1 hH => ?_
 refine zV_q (vMv_q rfl) rfl ?_
 refine zpR <| st (zP_v (vFieldAddr_loc rfl)) <| st (zL_v (wL_loc rfl (has_get hH 0 rfl) rfl rfl)) <| st (zP_v (vLenL_sl rfl)) <| st (zP_v (vFieldAddr_loc rfl)) <| st (zL_v (wL_loc rfl (has_get hH 0 rfl) rfl rfl)) <| st (zP_v (vLenL_sl rfl)) <| st (zP_v (vFieldAddr_loc rfl)) <| st (zL_v (wL_loc rfl (has_get hH 0 rfl) rfl rfl)) <| st (zP_v (vLenL_sl rfl)) <| st (sP_val (a := Acc.none) rfl) <| st (zP_v (vInt_eq fGtr_ok rfl rfl (fGtr' (by omega)))) <| zph rfl <| st (zP_v (vFieldAddr_loc rfl)) <| zph rfl <| st (zL_v (wL_loc rfl (has_get hH 0 rfl) rfl rfl)) <| zph rfl <| st (zP_v (vLenL_sl rfl)) <| zph rfl <| st (zP_v (vInt_eq fEql_ok rfl rfl (fEql' (by omega)))) <| zph rfl <| st (zP_v (vMv_q rfl)) ?_
 refine zGm_q rfl ?_
 refine zGm_q rfl ?_
 refine zGm_q rfl ?_
 refine zGm_q rfl ?_
 refine zGm_q rfl ?_
 refine zGm_q rfl ?_
 refine zph rfl <| st (zP_v (vPick_f rfl)) <| st (zP_v (vPick_f rfl)) ?_
 refine zV_q (vMv_q rfl) rfl ?_
 refine st zRet_app ?_
 exact ends_tmp rfl
set_option maxHeartbeats 1000000 in
theorem c109m {k : Nat} (Y : YE) (T : TH) (sA : Txt) (vA : List Nat) (sB : Txt) (vB : List Nat) (f1 f2 f3 f4 : Bool) (hA : sA.length = vA.length) (hB : sB.length = vB.length) (hlA : sA.length ≤ 100) (hlB : sB.length ≤ 100) (hk : 3000 ≤ k) (all : List Mrg) (hall : mergeE (rowE sA vA) (rowE sB vB) = all) (hl : all.length ≤ 40) :
  CY (k + 7) Y (.func 109) [sMap, .agg (mapV sA f1 vA f2), .agg (mapV sB f3 vB f4)] T = some (.tup [mapA (all.map (·.1.1)) (all.map mN), .nilIface], T, ⟨[], [], false⟩) := by
 refine call_go (zf := G109 E1) rfl rfl (fun _ => rfl) (fun _ => rfl) ?_
 unfold G109 sMap mapV
 dsimp only
 have hH : Has ([] : Heap) [] := has_nil
 have c128' := c128 (k := k) [] T sA vA sB vB f1 f2 f3 f4 hA hB hlA hlB hk all hall
 refine zpR ?_
 refine qV_new hH (ev_boxQ rfl rfl ⟨_, rfl⟩) (fun _ => rfl) fun n1 Hn1 hH => ?_
 refine qV_new hH (ev_boxQ rfl rfl ⟨_, rfl⟩) (fun _ => rfl) fun n2 Hn2 hH => ?_
 refine qV_new hH (ev_boxQ rfl rfl ⟨_, rfl⟩) (fun _ => rfl) fun n3 Hn3 hH => ?_
 refine qV_new hH (ev_allocQ rfl) (fun _ => rfl) fun n4 Hn4 hH => ?_
 refine zV_q (vMv_q rfl) rfl ?_
 refine zpA <| zpR <| st (zP_v (vFieldAddr_loc rfl)) <| st (wV_load (wL_loc rfl (has_get hH 3 rfl) rfl rfl)) <| st zBlock_app <| zpA <| zpR <| st (zP_v (vInt_eq fEql_ok rfl rfl (fEql' (by omega)))) ?_
 refine zV_q (vMv_q rfl) rfl ?_
 refine zpf rfl <| st zReg_eq <| st (zP_v (vInt_eq fEql_ok rfl rfl (fEql' (by omega)))) ?_
 refine zV_q (vMv_q rfl) rfl ?_
 refine zpf rfl <| zpR <| st (zP_v (vInt_eq fEql_ok rfl rfl (fEql' (by omega)))) <| st (zP_v (vMv_q rfl)) <| zpf rfl <| zpR <| st (zP_v (vInt_eq fEql_ok rfl rfl (tEql (by omega)))) <| st (zP_v (vMv_q rfl)) <| zpt rfl <| st zReg_eq <| st (zL_v (wL_loc rfl (has_get hH 3 rfl) rfl rfl)) <| st (zL_v (wL_loc rfl (has_get hH 2 rfl) rfl rfl)) <| st (zL_v (wL_loc rfl (has_get hH 1 rfl) rfl rfl)) <| st (cP_call rfl (c128 (k := k) _ _ sA vA sB vB f1 f2 f3 f4 hA hB hlA hlB hk all hall)) <| st (zP_v (vExt_eq rfl rfl)) <| st (zP_v (vExt_eq rfl rfl)) ?_
 refine qN_put hH 0 rfl rfl rfl rfl ⟨_, rfl, rfl⟩ rfl rfl rfl fun H5 hH => ?_
 refine zV_q (vMv_q rfl) rfl ?_
 refine zpA <| zpR <| st (zP_v (vInt_any rfl rfl (fun _ _ => rfl) rfl)) <| zph rfl <| st (zL_v (wL_loc rfl (has_get hH 0 rfl) rfl rfl)) <| zph rfl <| st (cP_call rfl (c133m _ _ _ _ _ _ (by simp) (by simp; omega))) <| st (zP_v (vPick_t rfl)) <| zpf rfl <| zpK <| zpA <| zpR <| st (zP_v (vInt_any rfl rfl (fun _ _ => rfl) rfl)) <| zpf rfl <| zpK <| zpR <| st (zL_v (wL_loc rfl (has_get hH 0 rfl) rfl rfl)) ?_
 refine qN_put hH 0 rfl rfl rfl rfl ⟨_, rfl, rfl⟩ rfl rfl rfl fun H6 hH => ?_
 refine zV_q (vMv_q rfl) rfl ?_
 refine st zRet_app ?_
 exact ends_ct rfl (has_get hH 0 rfl) ⟨_, rfl, rfl, rfl⟩ rfl
theorem c13m {k : Nat} (Y : YE) (T : TH) : CY (k + 30) Y (.func 13) [sMap] T = some (.bool true, T, ⟨[], [], false⟩) := call_go (zf := G13 E1) rfl rfl (fun _ => rfl) (fun _ => rfl) (endsB_ok (by kernel_rfl))
end Go.Proofs.PxM6
