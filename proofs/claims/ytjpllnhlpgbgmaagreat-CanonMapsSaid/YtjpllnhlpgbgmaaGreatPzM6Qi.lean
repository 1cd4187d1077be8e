/- Canon: Put on a map (walks by zauto). -/
import Derived.Test.YtjpllnhlpgbgmaaGreatPzM6Qh
set_option linter.unusedVariables false
set_option linter.unusedSimpArgs false
set_option maxRecDepth 100000
namespace Go.Proofs.PxM6
open Go Go.Px Go.Proofs
theorem c15m {k : Nat} (Y : YE) (T : TH) (s : Txt) (v : List Nat) (f1 f2 : Bool) (hsv : s.length = v.length) (hl : s.length ≤ 1000) (hk : 3000 ≤ k) (hx : ∀ x ∈ List.zipWith oneM s v, OkM x.1 x.2) (hg : ∀ p q, List.zipWith oneM s v = p ++ q → OkM (foldM p).1 (foldM p).2) :
  CY (k + 62) Y (.func 15) [sMap, .agg (mapV s f1 v f2)] T = some (.tup [mapA (foldM (List.zipWith oneM s v)).1 (foldM (List.zipWith oneM s v)).2, .nilIface], T, ⟨[], [], false⟩) := by
 refine call_go (zf := G15 E1) rfl rfl (fun _ => rfl) (fun _ => rfl) ?_
 unfold G15 sMap mapV
 dsimp only
 have hH : Has ([] : Heap) [] := has_nil
 refine zpR ?_
 refine qV_new hH (ev_boxQ rfl rfl ⟨_, rfl⟩) (fun _ => rfl) fun n1 Hn1 hH => ?_
 refine qV_new hH (ev_boxQ rfl rfl ⟨_, rfl⟩) (fun _ => rfl) fun n2 Hn2 hH => ?_
 refine qV_new hH (ev_allocQ rfl) (fun _ => rfl) fun n3 Hn3 hH => ?_
 refine zV_q (vMv_q rfl) rfl ?_
 refine zpA <| zpR <| st (zP_v (vFieldAddr_loc rfl)) <| st (wV_load (wL_loc rfl (has_get hH 2 rfl) rfl rfl)) <| st zBlock_app <| zpR <| st (zP_v (vInt_eq fEql_ok rfl rfl (fEql' (by omega)))) <| st (zP_v (vMv_q rfl)) <| zpf rfl <| zpR <| st (zP_v (vInt_eq fEql_ok rfl rfl (tEql (by omega)))) <| st (zP_v (vMv_q rfl)) <| zpt rfl <| zpR <| st (zL_v (wL_loc rfl (has_get hH 2 rfl) rfl rfl)) <| st (zL_v (wL_loc rfl (has_get hH 1 rfl) rfl rfl)) <| st (cP_call rfl (c35 (k := k) _ _ s v f1 f2 hsv hl hk hx hg)) <| st (zP_v (vExt_eq rfl rfl)) <| st (zP_v (vExt_eq rfl rfl)) ?_
 refine qN_put hH 0 rfl rfl rfl rfl ⟨_, rfl, rfl⟩ rfl rfl rfl fun H4 hH => ?_
 refine zV_q (vMv_q rfl) rfl ?_
 refine st zRet_app ?_
 exact ends_ct rfl (has_get hH 0 rfl) ⟨_, rfl, rfl, rfl⟩ rfl
theorem c54 {k : Nat} (Y : YE) (T : TH) (a b c : Int) : CY (k + 1) Y (.func 54) [.int .i64 a, .int .i64 b, .int .i64 c] T = some (.agg [.int .i64 a, .int .i64 b, .int .i64 c], T, ⟨[], [], false⟩) := by
 refine call_go (zf := G54 E1) rfl rfl (fun _ => rfl) (fun _ => rfl) ?_
 unfold G54
 dsimp only
 have hH : Has ([] : Heap) [] := has_nil
 refine zpR ?_
 refine qV_new hH (ev_allocQ rfl) (fun _ => rfl) fun n1 Hn1 hH => ?_
 refine zpR <| st (sP_val (a := Acc.none) rfl) ?_
 refine qN_put hH 0 rfl rfl rfl rfl ⟨_, rfl, rfl⟩ rfl rfl rfl fun H2 hH => ?_
 refine st zRet_app ?_
 exact ends_cl rfl (has_get hH 0 rfl) ⟨_, rfl, rfl, rfl⟩ rfl
theorem eq93g (a b c a' b' c' : Int) : binB E1 .eql 93 false false (.agg [.int .i64 a, .int .i64 b, .int .i64 c]) (.agg [.int .i64 a', .int .i64 b', .int .i64 c']) = Option.map .bool (if (a == a') = true then (if (b == b') = true then (if (c == c') = true then some true else some false) else some false) else some false) := by kernel_rfl
theorem eq93 {a b c a' b' c' : Int} (h1 : a = a') (h2 : b = b') (h3 : c = c') : binB E1 .eql 93 false false (.agg [.int .i64 a, .int .i64 b, .int .i64 c]) (.agg [.int .i64 a', .int .i64 b', .int .i64 c']) = some (.bool true) := by
 subst h1 h2 h3
 rw [eq93g]; simp
set_option maxHeartbeats 2000000 in
theorem c31n {k : Nat} (Y : YE) (T : TH) (n : Nat) : CY (k + 30) Y (.func 31) [.int .i64 1, .agg (numV n)] T = some (.bool true, T, ⟨[], [], false⟩) := by
 refine call_go (zf := G31 E1) rfl rfl (fun _ => rfl) (fun _ => rfl) ?_
 unfold G31 numV
 dsimp only
 have hH : Has ([] : Heap) [] := has_nil
 refine zpR ?_
 refine qV_new hH (ev_boxQ rfl rfl ⟨_, rfl⟩) (fun _ => rfl) fun n1 Hn1 hH => ?_
 refine zV_q (vMv_q rfl) rfl ?_
 refine zpR ?_
 refine zV_q (vMv_q rfl) rfl ?_
 refine zpR <| st (zP_v (vFieldAddr_loc rfl)) <| st (zL_v (wL_loc rfl (has_get hH 0 rfl) rfl rfl)) <| st (zP_v (vLenL_sl rfl)) <| st (zP_v (vFieldAddr_loc rfl)) <| st (zL_v (wL_loc rfl (has_get hH 0 rfl) rfl rfl)) <| st (zP_v (vLenL_sl rfl)) <| st (zP_v (vFieldAddr_loc rfl)) <| st (zL_v (wL_loc rfl (has_get hH 0 rfl) rfl rfl)) <| st (zP_v (vLenL_sl rfl)) <| st (sP_call (c54 _ _ _ _ _) (ev_callv rfl rfl rfl) rfl) ?_
 refine qV_new hH (ev_allocQ rfl) (fun _ => rfl) fun n2 Hn2 hH => ?_
 refine qN_put hH 0 rfl rfl rfl rfl ⟨_, rfl, rfl⟩ rfl rfl rfl fun H3 hH => ?_
 refine zpR <| st (zP_v (vFieldAddr_loc rfl)) <| st (zL_v (wL_loc rfl (has_get hH 1 rfl) rfl rfl)) <| st (zP_v (vInt_eq fEql_ok rfl rfl qEql)) ?_
 refine two (b := decide ((↑n : Int) = 0)) (fun b4 => ?_) (fun b4 => ?_)
 ·have d4 := of_decide_eq_true b4
  refine st (zG_hit (bAV b4)) <| st (zP_v (vFieldAddr_loc rfl)) <| st (zG_hit (bAV b4)) <| st (zL_v (wL_loc rfl (has_get hH 1 rfl) rfl rfl)) <| st (zG_hit (bAV b4)) <| st (zP_v (vInt_eq fEql_ok rfl rfl (tEql (by omega)))) <| st (zP_v (vPick_t (bAV b4))) ?_
  refine zV_q (vMv_q rfl) rfl ?_
  refine zpA <| zpR ?_
  refine zV_q (vMv_q rfl) rfl ?_
  refine st zBlock_app <| zpR <| st (zP_v (vInt_eq fEql_ok rfl rfl (tEql (by omega)))) <| st (zP_v (vMv_q rfl)) <| zpt rfl <| zpA ?_
  refine qd1 hH fun n5 Hn5 hH => ?_
  refine st (zPD_v (vFieldAddr_loc rfl)) <| st (zLD_v (wL_loc rfl (has_get hH 2 rfl) rfl rfl) rfl spOk_nil) <| st (zPD_v (vInt_eq fEql_ok rfl rfl (tEql (by omega)))) <| zpH rfl <| st (zLD_v (wL_loc rfl (has_get hH 1 rfl) rfl rfl) rfl (spOk_bef rfl spOk_nil)) <| zpH rfl <| st (zPD_v (vMv_q rfl)) <| zpH rfl <| st (dP_callI (c54 _ _ _ _ _) (ev_callv rfl rfl rfl) rfl rfl) <| zpH rfl <| st (zPD_v (vInt_any rfl rfl (fun _ _ => rfl) (eq93 rfl rfl rfl))) <| st (zPD_v (vPick_t rfl)) ?_
  refine zVD_q (vMv_q rfl) rfl ?_
  refine st zRet_app ?_
  exact ends_tmp rfl
 ·have d4 := of_decide_eq_false b4
  refine zGm_q (bAV b4) ?_
  refine zGm_q (bAV b4) ?_
  refine zGm_q (bAV b4) ?_
  refine st (zP_v (vPick_f (bAV b4))) ?_
  refine zV_q (vMv_q rfl) rfl ?_
  refine zpA <| zpR ?_
  refine zV_q (vMv_q rfl) rfl ?_
  refine st zBlock_app <| zpR <| st (zP_v (vInt_eq fEql_ok rfl rfl (tEql (by omega)))) <| st (zP_v (vMv_q rfl)) <| zpt rfl <| zpA ?_
  refine qd1 hH fun n6 Hn6 hH => ?_
  refine st (zPD_v (vFieldAddr_loc rfl)) <| st (zLD_v (wL_loc rfl (has_get hH 2 rfl) rfl rfl) rfl spOk_nil) <| st (zPD_v (vInt_eq fEql_ok rfl rfl (tEql (by omega)))) <| zpH rfl <| st (zLD_v (wL_loc rfl (has_get hH 1 rfl) rfl rfl) rfl (spOk_bef rfl spOk_nil)) <| zpH rfl <| st (zPD_v (vMv_q rfl)) <| zpH rfl <| st (dP_callI (c54 _ _ _ _ _) (ev_callv rfl rfl rfl) rfl rfl) <| zpH rfl <| st (zPD_v (vInt_any rfl rfl (fun _ _ => rfl) (eq93 rfl rfl rfl))) <| st (zPD_v (vPick_t rfl)) ?_
  refine zVD_q (vMv_q rfl) rfl ?_
  refine st zRet_app ?_
  exact ends_tmp rfl
set_option maxHeartbeats 2000000 in
theorem c31m {k : Nat} (Y : YE) (T : TH) (s : Txt) (v : List Nat) (f1 f2 : Bool) (h : s.length = v.length) : CY (k + 30) Y (.func 31) [.int .i64 4, .agg (mapV s f1 v f2)] T = some (.bool true, T, ⟨[], [], false⟩) := by
 refine call_go (zf := G31 E1) rfl rfl (fun _ => rfl) (fun _ => rfl) ?_
 unfold G31 mapV
 dsimp only
 have hH : Has ([] : Heap) [] := has_nil
 refine zpR ?_
 refine qV_new hH (ev_boxQ rfl rfl ⟨_, rfl⟩) (fun _ => rfl) fun n1 Hn1 hH => ?_
 refine zV_q (vMv_q rfl) rfl ?_
 refine zpR ?_
 refine zV_q (vMv_q rfl) rfl ?_
 refine zpR <| st (zP_v (vFieldAddr_loc rfl)) <| st (zL_v (wL_loc rfl (has_get hH 0 rfl) rfl rfl)) <| st (zP_v (vLenL_sl rfl)) <| st (zP_v (vFieldAddr_loc rfl)) <| st (zL_v (wL_loc rfl (has_get hH 0 rfl) rfl rfl)) <| st (zP_v (vLenL_sl rfl)) <| st (zP_v (vFieldAddr_loc rfl)) <| st (zL_v (wL_loc rfl (has_get hH 0 rfl) rfl rfl)) <| st (zP_v (vLenL_sl rfl)) <| st (sP_call (c54 _ _ _ _ _) (ev_callv rfl rfl rfl) rfl) ?_
 refine qV_new hH (ev_allocQ rfl) (fun _ => rfl) fun n2 Hn2 hH => ?_
 refine qN_put hH 0 rfl rfl rfl rfl ⟨_, rfl, rfl⟩ rfl rfl rfl fun H3 hH => ?_
 refine zpR <| st (zP_v (vFieldAddr_loc rfl)) <| st (zL_v (wL_loc rfl (has_get hH 1 rfl) rfl rfl)) <| st (zP_v (vInt_eq fEql_ok rfl rfl (tEql (by omega)))) <| zph rfl <| st (zP_v (vFieldAddr_loc rfl)) <| zph rfl <| st (zL_v (wL_loc rfl (has_get hH 1 rfl) rfl rfl)) <| zph rfl <| st (zP_v (vInt_eq fEql_ok rfl rfl (tEql (by omega)))) <| st (zP_v (vPick_t rfl)) ?_
 refine zV_q (vMv_q rfl) rfl ?_
 refine zpA <| zpR ?_
 refine zV_q (vMv_q rfl) rfl ?_
 refine st zBlock_app <| zpR <| st (zP_v (vInt_eq fEql_ok rfl rfl (fEql' (by omega)))) <| st (zP_v (vMv_q rfl)) <| zpf rfl <| zpR <| st (zP_v (vInt_eq fEql_ok rfl rfl (fEql' (by omega)))) <| st (zP_v (vMv_q rfl)) <| zpf rfl <| zpR <| st (zP_v (vInt_eq fEql_ok rfl rfl (fEql' (by omega)))) <| st (zP_v (vMv_q rfl)) <| zpf rfl <| zpR <| st (zP_v (vInt_eq fEql_ok rfl rfl (tEql (by omega)))) <| st (zP_v (vMv_q rfl)) <| zpt rfl <| zpA ?_
 refine qd1 hH fun n4 Hn4 hH => ?_
 refine zpH rfl <| st (zLD_v (wL_loc rfl (has_get hH 1 rfl) rfl rfl) rfl spOk_nil) <| zpH rfl <| st (zPD_v (vMv_q rfl)) <| zpH rfl <| st (zPD_v (vFieldAddr_loc rfl)) <| zpH rfl <| st (zLD_v (wL_loc rfl (has_get hH 2 rfl) rfl rfl) rfl (spOk_apart rfl spOk_nil)) <| zpH rfl <| st (zPD_v (vLenL_sl rfl)) <| zpH rfl <| st (zPD_v (vFieldAddr_loc rfl)) <| zpH rfl <| st (zLD_v (wL_loc rfl (has_get hH 2 rfl) rfl rfl) rfl (spOk_apart rfl (spOk_apart rfl spOk_nil))) <| zpH rfl <| st (zPD_v (vLenL_sl rfl)) <| zpH rfl <| st (dP_callI (c54 _ _ _ _ _) (ev_callv rfl rfl rfl) rfl rfl) <| zpH rfl <| st (zPD_v (vInt_any rfl rfl (fun _ _ => rfl) (eq93 (by omega) rfl (by omega)))) <| st (zPD_v (vPick_t rfl)) ?_
 refine zVD_q (vMv_q rfl) rfl ?_
 refine st zRet_app ?_
 exact ends_tmp rfl
end Go.Proofs.PxM6
