/- Canon: maps of numbers are right, joined (walks by zauto). -/
import Derived.Test.YtjpllnhlpgbgmaaGreatPzM6Qd
set_option linter.unusedVariables false
set_option linter.unusedSimpArgs false
set_option maxRecDepth 100000
namespace Go.Proofs.PxM6
open Go Go.Px Go.Proofs
structure OkM (s : Txt) (v : List Nat) : Prop where
 len : s.length = v.length
 le : s.length ≤ 40
 rises : Rises s
 short : ∀ t ∈ s, t.length ≤ 16
 pos : ∀ n ∈ v, 0 < n
set_option maxHeartbeats 1000000 in
theorem c75m {k : Nat} (Y : YE) (T : TH) (s : Txt) (v : List Nat) (f1 f2 : Bool) (h : OkM s v) (hk : 1000 ≤ k) : CY (k + 54) Y (.func 75) [sMap, .agg (mapV s f1 v f2)] T = some (.bool true, T, ⟨[], [], false⟩) := by
 obtain ⟨h1, h2, h3, h4, h5⟩ := h
 refine call_go (zf := G75 E1) rfl rfl (fun _ => rfl) (fun _ => rfl) ?_
 unfold G75 mapV sMap
 dsimp only
 have hH : Has ([] : Heap) [] := has_nil
 refine zpR ?_
 refine qV_new hH (ev_boxQ rfl rfl ⟨_, rfl⟩) (fun _ => rfl) fun n1 Hn1 hH => ?_
 refine qV_new hH (ev_boxQ rfl rfl ⟨_, rfl⟩) (fun _ => rfl) fun n2 Hn2 hH => ?_
 refine zV_q (vMv_q rfl) rfl ?_
 refine zpA <| zpR <| st (zP_v (vFieldAddr_loc rfl)) <| st (zL_v (wL_loc rfl (has_get hH 1 rfl) rfl rfl)) <| st (zL_v (wL_loc rfl (has_get hH 0 rfl) rfl rfl)) <| st (cP_call rfl (c84m _ _ s v _ _)) <| st (zP_v (vNot_eq rfl)) <| zph rfl <| st (zP_v (vFieldAddr_loc rfl)) <| zph rfl <| st (zL_v (wL_loc rfl (has_get hH 0 rfl) rfl rfl)) <| zph rfl <| st (zP_v (vLenL_sl rfl)) <| zph rfl <| st (zP_v (vInt_eq fGtr_ok rfl rfl (fGtr' (by omega)))) <| st (zP_v (vPick_f rfl)) <| zph rfl <| st (zP_v (vFieldAddr_loc rfl)) <| zph rfl <| st (zL_v (wL_loc rfl (has_get hH 0 rfl) rfl rfl)) <| zph rfl <| st (zP_v (vLenL_sl rfl)) <| zph rfl <| st (zP_v (vInt_eq fGtr_ok rfl rfl (fGtr' (by omega)))) ?_
 refine st (zP_v (vPick_f rfl)) <| zpf rfl <| zpK <| zpR <| st (sP_val (ev_mkFunc rfl)) ?_
 refine qV_new hH (ev_allocQ rfl) (fun _ => rfl) fun n3 Hn3 hH => ?_
 refine qN_put hH 0 rfl rfl rfl rfl ⟨_, rfl, rfl⟩ rfl rfl rfl fun H4 hH => ?_
 refine zpA <| zpR <| st (zP_v (vFieldAddr_loc rfl)) <| st (wV_load (wL_loc rfl (has_get hH 2 rfl) rfl rfl)) <| st zBlock_app <| zpR <| st (zP_v (vInt_eq fEql_ok rfl rfl (fEql' (by omega)))) <| st (zP_v (vMv_q rfl)) <| zpf rfl <| zpR <| st (zP_v (vInt_eq fEql_ok rfl rfl (fEql' (by omega)))) <| st (zP_v (vMv_q rfl)) <| zpf rfl <| zpR <| st (zP_v (vInt_eq fEql_ok rfl rfl (fEql' (by omega)))) <| st (zP_v (vMv_q rfl)) <| zpf rfl <| zpR <| st (zP_v (vInt_eq fEql_ok rfl rfl (tEql (by omega)))) <| st (zP_v (vMv_q rfl)) <| zpt rfl <| zpR <| st (zP_v (vFieldAddr_loc rfl)) <| st (zL_v (wL_loc rfl (has_get hH 1 rfl) rfl rfl)) ?_
 refine st (cP_call rfl (c86 _ _ s _ h3 h2 h4 (by omega))) <| zph rfl <| st (zP_v (vFieldAddr_loc rfl)) <| zph rfl <| st (zL_v (wL_loc rfl (has_get hH 1 rfl) rfl rfl)) <| zph rfl <| st (zP_v (vLenL_sl rfl)) <| zph rfl <| st (zP_v (vFieldAddr_loc rfl)) <| zph rfl <| st (zL_v (wL_loc rfl (has_get hH 1 rfl) rfl rfl)) <| zph rfl <| st (zP_v (vLenL_sl rfl)) <| zph rfl <| st (zP_v (vInt_eq fEql_ok rfl rfl (tEql (by omega)))) <| st (zP_v (vPick_t rfl)) <| zph rfl <| st (zP_v (vFieldAddr_loc rfl)) <| zph rfl <| st (zL_v (wL_loc rfl (has_get hH 1 rfl) rfl rfl)) <| zph rfl <| st (sP_val (ev_mkFunc rfl)) <| zph rfl ?_
 (obtain ⟨r, H9, ac, hc, rfl, rfl⟩ := c87 (k := k + 51) (Y := []) v f2 88 [.loc n3 0, .loc n1 0] (fun _ => rfl) (by omega) (by omega) _ (fun n hn => ⟨_, call_fzF (c88 (k := k) [] .nil n (h5 n hn)) rfl (fun _ => rfl) (fzL_cons rfl (fzL_cons (fzG_locL (has_get hH 0 rfl) rfl (fzL_cons (fzG_cloL (fzL_cons (fzG_locL (has_get hH 2 rfl) rfl rfl) rfl)) rfl)) (fzL_cons (fzG_locL (has_get hH 2 rfl) rfl rfl) rfl))) rfl⟩); refine st (cP_call rfl hc) ?_)
 refine zph rfl <| st (zP_v (vNot_eq rfl)) <| st (zP_v (vPick_t rfl)) ?_
 refine zV_q (vMv_q rfl) rfl ?_
 refine st zRet_app ?_
 exact ends_tmp rfl
theorem c55m {k : Nat} (Y : YE) (T : TH) (s : Txt) (v : List Nat) (f1 f2 : Bool) (h : OkM s v) (hk : 1000 ≤ k) : CY (k + 55) Y (.func 55) [sMap, .agg (mapV s f1 v f2)] T = some (.bool true, T, ⟨[], [], false⟩) := by
 refine call_go (zf := G55 E1) rfl rfl (fun _ => rfl) (fun _ => rfl) ?_
 unfold G55 mapV sMap
 dsimp only
 have hH : Has ([] : Heap) [] := has_nil
 refine zpR ?_
 refine qV_new hH (ev_boxQ rfl rfl ⟨_, rfl⟩) (fun _ => rfl) fun n1 Hn1 hH => ?_
 refine qV_new hH (ev_boxQ rfl rfl ⟨_, rfl⟩) (fun _ => rfl) fun n2 Hn2 hH => ?_
 refine zV_q (vMv_q rfl) rfl ?_
 refine zpR <| st (zL_v (wL_loc rfl (has_get hH 1 rfl) rfl rfl)) <| st (cP_call rfl (c13m (k := k + 24) _ _)) <| zph rfl <| st (zL_v (wL_loc rfl (has_get hH 1 rfl) rfl rfl)) <| zph rfl <| st (zL_v (wL_loc rfl (has_get hH 0 rfl) rfl rfl)) <| zph rfl <| st (cP_call rfl (c75m _ _ s v _ _ h hk)) <| st (zP_v (vPick_t rfl)) ?_
 refine zV_q (vMv_q rfl) rfl ?_
 refine st zRet_app ?_
 exact ends_tmp rfl
set_option maxHeartbeats 1000000 in
theorem c80m {k : Nat} (Y : YE) (T : TH) (sA : Txt) (vA : List Nat) (sB : Txt) (vB : List Nat) (f1 f2 f3 f4 : Bool) (hA : OkM sA vA) (hB : OkM sB vB) (hk : 3000 ≤ k) (all : List Mrg) (hall : mergeE (rowE sA vA) (rowE sB vB) = all) (hl : all.length ≤ 40) :
  CY (k + 56) Y (.func 80) [sMap, .agg (mapV sA f1 vA f2), .agg (mapV sB f3 vB f4)] T = some (.tup [mapA (all.map (·.1.1)) (all.map mN), .nilIface], T, ⟨[], [], false⟩) := by
 have hlA := hA.le
 have hlB := hB.le
 refine call_go (zf := G80 E1) rfl rfl (fun _ => rfl) (fun _ => rfl) ?_
 unfold G80 mapV sMap
 dsimp only
 have hH : Has ([] : Heap) [] := has_nil
 refine zpR ?_
 refine qV_new hH (ev_boxQ rfl rfl ⟨_, rfl⟩) (fun _ => rfl) fun n1 Hn1 hH => ?_
 refine qV_new hH (ev_boxQ rfl rfl ⟨_, rfl⟩) (fun _ => rfl) fun n2 Hn2 hH => ?_
 refine qV_new hH (ev_boxQ rfl rfl ⟨_, rfl⟩) (fun _ => rfl) fun n3 Hn3 hH => ?_
 refine qV_new hH (ev_allocQ rfl) (fun _ => rfl) fun n4 Hn4 hH => ?_
 refine zV_q (vMv_q rfl) rfl ?_
 refine zpA <| zpR <| st (zL_v (wL_loc rfl (has_get hH 3 rfl) rfl rfl)) <| st (zL_v (wL_loc rfl (has_get hH 2 rfl) rfl rfl)) <| st (cP_call rfl (c55m _ _ _ _ _ _ hA (by omega))) <| st (zP_v (vNot_eq rfl)) <| zph rfl <| st (zL_v (wL_loc rfl (has_get hH 3 rfl) rfl rfl)) <| zph rfl <| st (zL_v (wL_loc rfl (has_get hH 1 rfl) rfl rfl)) <| zph rfl <| st (cP_call rfl (c55m _ _ _ _ _ _ hB (by omega))) <| zph rfl <| st (zP_v (vNot_eq rfl)) <| st (zP_v (vPick_f rfl)) <| zpf rfl <| zpK <| zpR <| st (zL_v (wL_loc rfl (has_get hH 3 rfl) rfl rfl)) <| st (zL_v (wL_loc rfl (has_get hH 2 rfl) rfl rfl)) <| st (zL_v (wL_loc rfl (has_get hH 1 rfl) rfl rfl)) <| st (cP_call rfl (c109m (k := k + 48) _ _ sA vA sB vB f1 f2 f3 f4 hA.len hB.len (by omega) (by omega) (by omega) all hall hl)) <| st (zP_v (vExt_eq rfl rfl)) <| st (zP_v (vExt_eq rfl rfl)) ?_
 refine qN_put hH 0 rfl rfl rfl rfl ⟨_, rfl, rfl⟩ rfl rfl rfl fun H5 hH => ?_
 refine zV_q (vMv_q rfl) rfl ?_
 refine st zRet_app ?_
 exact ends_ct rfl (has_get hH 0 rfl) ⟨_, rfl, rfl, rfl⟩ rfl
end Go.Proofs.PxM6
