/- Canon: a map's entries put right, one by one (walks by zauto). -/
import Derived.Test.YtjpllnhlpgbgmaaGreatPzM6Qe
set_option linter.unusedVariables false
set_option linter.unusedSimpArgs false
set_option maxRecDepth 100000
namespace Go.Proofs.PxM6
open Go Go.Px Go.Proofs
theorem c15n {k : Nat} (Y : YE) (T : TH) (n : Nat) : CY (k + 1) Y (.func 15) [sMax, .agg (numV n)] T = some (.tup [.agg (numV n), .nilIface], T, ⟨[], [], false⟩) := by
 refine call_go (zf := G15 E1) rfl rfl (fun _ => rfl) (fun _ => rfl) ?_
 unfold G15 sMax numV
 dsimp only
 have hH : Has ([] : Heap) [] := has_nil
 refine zpR ?_
 refine qV_new hH (ev_boxQ rfl rfl ⟨_, rfl⟩) (fun _ => rfl) fun n1 Hn1 hH => ?_
 refine qV_new hH (ev_boxQ rfl rfl ⟨_, rfl⟩) (fun _ => rfl) fun n2 Hn2 hH => ?_
 refine qV_new hH (ev_allocQ rfl) (fun _ => rfl) fun n3 Hn3 hH => ?_
 refine zV_q (vMv_q rfl) rfl ?_
 refine zpA <| zpR <| st (zP_v (vFieldAddr_loc rfl)) <| st (wV_load (wL_loc rfl (has_get hH 2 rfl) rfl rfl)) <| st zBlock_app <| zpR <| st (zP_v (vInt_eq fEql_ok rfl rfl (fEql' (by omega)))) <| st (zP_v (vMv_q rfl)) <| zpf rfl <| zpR <| st (zP_v (vInt_eq fEql_ok rfl rfl (fEql' (by omega)))) <| st (zP_v (vMv_q rfl)) <| zpf rfl <| zpR <| st (zP_v (vInt_eq fEql_ok rfl rfl (fEql' (by omega)))) <| st (zP_v (vMv_q rfl)) <| zpf rfl <| zpR <| st (zP_v (vInt_eq fEql_ok rfl rfl (fEql' (by omega)))) <| st (zP_v (vMv_q rfl)) <| zpf rfl <| zpR <| st (zP_v (vInt_eq fEql_ok rfl rfl (fEql' (by omega)))) <| st (zP_v (vMv_q rfl)) ?_
 refine zpf rfl <| zpK <| zpR <| st (zL_v (wL_loc rfl (has_get hH 1 rfl) rfl rfl)) ?_
 refine qN_put hH 0 rfl rfl rfl rfl ⟨_, rfl, rfl⟩ rfl rfl rfl fun H4 hH => ?_
 refine zV_q (vMv_q rfl) rfl ?_
 refine st zRet_app ?_
 exact ends_ct rfl (has_get hH 0 rfl) ⟨_, rfl, rfl, rfl⟩ rfl
def oneM (t : List Nat) (n : Nat) : Txt × List Nat := if n = 0 then ([], []) else ([t], [n])
theorem c60 {k : Nat} (Y : YE) (T : TH) (s : Txt) (v : List Nat) (f1 f2 : Bool) (i n : Nat) (t : List Nat) (hs : s[i]? = some t) (hl : s.length ≤ 1000) : CY (k + 51) Y (.func 60) [iV i, .agg (numV n), .ref sMapC, .ref (mapV s f1 v f2)] T = some (.tup [mapA (oneM t n).1 (oneM t n).2, .nilIface], T, ⟨[], [], false⟩) := by
 have hi := (List.getElem?_eq_some_iff.1 hs).1
 have htl := txtC_len s
 refine call_go (zf := G60 E1) rfl rfl (fun _ => rfl) (fun _ => rfl) ?_
 by_cases hn : n = 0
 ·subst hn
  unfold G60 numV mapV sMapC
  dsimp only
  have hH : Has ([] : Heap) [] := has_nil
  refine zpR ?_
  refine qV_new hH (ev_boxQ rfl rfl ⟨_, rfl⟩) (fun _ => rfl) fun n1 Hn1 hH => ?_
  refine qV_new hH (ev_allocQ rfl) (fun _ => rfl) fun n2 Hn2 hH => ?_
  refine zV_q (vMv_q rfl) rfl ?_
  refine zpA ?_
  refine qd1 hH fun n3 Hn3 hH => ?_
  refine st (zPD_v (vFieldAddr_ref rfl (by simp))) <| st (zLD_idle (wL_ref rfl rfl rfl) rfl) <| st (zPD_v (vIndexAddr_sl rfl rfl (by simp) (by simp))) <| st (zLD_idle (wL_ref rfl rfl rfl) rfl) <| st (zLD_v (wL_loc rfl (has_get hH 2 rfl) rfl rfl) rfl spOk_nil) <| st (cP_idle rfl (c15n _ _ 0) rfl) <| st (zPD_v (vExt_eq rfl rfl)) <| st (zPD_v (vExt_eq rfl rfl)) ?_
  refine qDN_put hH 2 rfl rfl rfl rfl ⟨_, rfl, rfl⟩ rfl rfl rfl (spOk_bef rfl spOk_nil) fun H4 hH => ?_
  refine zVD_q (vMv_q rfl) rfl ?_
  refine zpA <| zpA ?_
  refine qd1 hH fun n5 Hn5 hH => ?_
  refine st (zPD_v (vInt_any rfl rfl (fun _ _ => rfl) rfl)) <| zpH rfl <| st (zPD_v (vFieldAddr_ref rfl (by simp))) <| zpH rfl <| st (zLD_idle (wL_ref rfl rfl rfl) rfl) <| zpH rfl <| st (zPD_v (vIndexAddr_sl rfl rfl (by simp) (by simp))) <| zpH rfl <| st (zLD_idle (wL_ref rfl rfl rfl) rfl) <| zpH rfl <| st (zLD_v (wL_loc rfl (has_get hH 3 rfl) rfl rfl) rfl spOk_nil) <| zpH rfl <| st (cP_idle rfl (c61z _ _) rfl) <| st (zPD_v (vPick_f rfl)) <| zpt rfl <| zpR <| st (sP_val (a := Acc.none) rfl) ?_
  refine qN_put hH 2 rfl rfl rfl rfl ⟨_, rfl, rfl⟩ rfl rfl rfl fun H6 hH => ?_
  refine zV_q (vMv_q rfl) rfl ?_
  refine st zRet_app ?_
  exact ends_ct rfl (has_get hH 2 rfl) ⟨_, rfl, rfl, rfl⟩ rfl
 ·have hp : 0 < n := by omega
  rw [show oneM t n = ([t], [n]) by simp [oneM, hn]]
  unfold G60 numV mapV sMapC
  dsimp only
  have hH : Has ([] : Heap) [] := has_nil
  refine zpR ?_
  refine qV_new hH (ev_boxQ rfl rfl ⟨_, rfl⟩) (fun _ => rfl) fun n1 Hn1 hH => ?_
  refine qV_new hH (ev_allocQ rfl) (fun _ => rfl) fun n2 Hn2 hH => ?_
  refine zV_q (vMv_q rfl) rfl ?_
  refine zpA ?_
  refine qd1 hH fun n3 Hn3 hH => ?_
  refine st (zPD_v (vFieldAddr_ref rfl (by simp))) <| st (zLD_idle (wL_ref rfl rfl rfl) rfl) <| st (zPD_v (vIndexAddr_sl rfl rfl (by simp) (by simp))) <| st (zLD_idle (wL_ref rfl rfl rfl) rfl) <| st (zLD_v (wL_loc rfl (has_get hH 2 rfl) rfl rfl) rfl spOk_nil) <| st (cP_idle rfl (c15n _ _ n) rfl) <| st (zPD_v (vExt_eq rfl rfl)) <| st (zPD_v (vExt_eq rfl rfl)) ?_
  refine qDN_put hH 2 rfl rfl rfl rfl ⟨_, rfl, rfl⟩ rfl rfl rfl (spOk_bef rfl spOk_nil) fun H4 hH => ?_
  refine zVD_q (vMv_q rfl) rfl ?_
  refine zpA <| zpA ?_
  refine qd1 hH fun n5 Hn5 hH => ?_
  refine st (zPD_v (vInt_any rfl rfl (fun _ _ => rfl) rfl)) <| zpH rfl <| st (zPD_v (vFieldAddr_ref rfl (by simp))) <| zpH rfl <| st (zLD_idle (wL_ref rfl rfl rfl) rfl) <| zpH rfl <| st (zPD_v (vIndexAddr_sl rfl rfl (by simp) (by simp))) <| zpH rfl <| st (zLD_idle (wL_ref rfl rfl rfl) rfl) <| zpH rfl <| st (zLD_v (wL_loc rfl (has_get hH 3 rfl) rfl rfl) rfl spOk_nil) <| zpH rfl <| st (cP_idle rfl (c61n _ _ n hp) rfl) <| st (zPD_v (vPick_f rfl)) <| zpf rfl <| zpK <| zpA ?_
  refine qd2 hH fun n6 Hn6 hH => ?_
  refine st (zPD_v (vFieldAddr_ref rfl (by simp))) <| st (zLD_idle (wL_ref rfl rfl rfl) rfl) <| st (zPD_v (vIndexAddr_sl rfl rfl (by omega) (by omega))) ?_
  rw [str_at hs]
  refine st (zLD_idle (wL_ref rfl rfl rfl) rfl) ?_
  refine qDP_new hH 1 rfl rfl rfl spOk_nil rfl fun H7 hH => ?_
  refine st (zLD_v (wL_loc rfl (has_get hH 5 rfl) rfl rfl) rfl (spOk_apart (mtQ hH [1, 1, 1] [] [] [5] rfl rfl rfl rfl rfl rfl rfl) spOk_nil)) ?_
  refine qDP_new hH 0 rfl rfl rfl (spOk_bef rfl (spOk_apart (mtQ hH [1, 1, 1] [] [0, 0, 0] [] rfl rfl rfl rfl rfl rfl rfl) spOk_nil)) rfl fun H8 hH => ?_
  refine st (dP_val (a := Acc.none) rfl rfl) ?_
  refine qDN_put hH 4 rfl rfl rfl rfl ⟨_, rfl, rfl⟩ rfl rfl rfl (spOk_bef rfl (spOk_bef rfl (spOk_bef rfl spOk_nil))) fun H9 hH => ?_
  refine zVD_q (vMv_q rfl) rfl ?_
  refine st zRet_app ?_
  exact ends_ct rfl (has_get hH 4 rfl) ⟨_, rfl, rfl, rfl⟩ (fz_map (k := 56) (s := [t]) (v := [n]) (has_get hH 1 rfl) (has_get hH 0 rfl) rfl rfl)
end Go.Proofs.PxM6
