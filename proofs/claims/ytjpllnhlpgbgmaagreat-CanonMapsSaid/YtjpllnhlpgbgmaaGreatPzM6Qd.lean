/- Canon: maps of numbers are right (walks by zauto). -/
import Derived.Test.YtjpllnhlpgbgmaaGreatPzM6Qc
set_option linter.unusedVariables false
set_option linter.unusedSimpArgs false
set_option maxRecDepth 100000
namespace Go.Proofs.PxM6
open Go Go.Px Go.Proofs
theorem c78n {k : Nat} (Y : YE) (T : TH) (n : Nat) (h : 0 < n) : CY (k + 1) Y (.func 78) [.agg (numV 0), .agg (numV n)] T = some (.bool false, T, ⟨[], [], false⟩) := by
 refine call_go (zf := G78 E1) rfl rfl (fun _ => rfl) (fun _ => rfl) ?_
 unfold G78 numV
 dsimp only
 have hH : Has ([] : Heap) [] := has_nil
 refine zpR ?_
 refine qV_new hH (ev_boxQ rfl rfl ⟨_, rfl⟩) (fun _ => rfl) fun n1 Hn1 hH => ?_
 refine qV_new hH (ev_boxQ rfl rfl ⟨_, rfl⟩) (fun _ => rfl) fun n2 Hn2 hH => ?_
 refine zV_q (vMv_q rfl) rfl ?_
 refine zpR <| st (zP_v (vFieldAddr_loc rfl)) <| st (zL_v (wL_loc rfl (has_get hH 1 rfl) rfl rfl)) <| st (zP_v (vFieldAddr_loc rfl)) <| st (zL_v (wL_loc rfl (has_get hH 0 rfl) rfl rfl)) <| st (zP_v (vInt_eq fEql_ok rfl rfl (fEql' (by omega)))) ?_
 refine zGm_q rfl ?_
 refine zGm_q rfl ?_
 refine zGm_q rfl ?_
 refine zGm_q rfl ?_
 refine zGm_q rfl ?_
 refine st (zP_v (vPick_f rfl)) ?_
 refine zGm_q rfl ?_
 refine zGm_q rfl ?_
 refine zGm_q rfl ?_
 refine zGm_q rfl ?_
 refine zGm_q rfl ?_
 refine st (zP_v (vPick_f rfl)) ?_
 refine zGm_q rfl ?_
 refine zGm_q rfl ?_
 refine zGm_q rfl ?_
 refine zGm_q rfl ?_
 refine zGm_q rfl ?_
 refine st (zP_v (vPick_f rfl)) ?_
 refine zGm_q rfl ?_
 refine zGm_q rfl ?_
 refine zGm_q rfl ?_
 refine zGm_q rfl ?_
 refine zGm_q rfl ?_
 refine st (zP_v (vPick_f rfl)) ?_
 refine zV_q (vMv_q rfl) rfl ?_
 refine st zRet_app ?_
 exact ends_tmp rfl
theorem c79x {k : Nat} (Y : YE) (T : TH) : CY (k + 40) Y (.func 79) [sMax] T = some (.agg (numV 0), T, ⟨[], [], false⟩) := call_go (zf := G79 E1) rfl rfl (fun _ => rfl) (fun _ => rfl) (endsB_ok (by kernel_rfl))
theorem c61z {k : Nat} (Y : YE) (T : TH) : CY (k + 50) Y (.func 61) [sMax, .agg (numV 0)] T = some (.bool true, T, ⟨[], [], false⟩) := call_go (zf := G61 E1) rfl rfl (fun _ => rfl) (fun _ => rfl) (endsB_ok (by kernel_rfl))
theorem c61n {k : Nat} (Y : YE) (T : TH) (n : Nat) (h : 0 < n) : CY (k + 50) Y (.func 61) [sMax, .agg (numV n)] T = some (.bool false, T, ⟨[], [], false⟩) := by
 refine call_go (zf := G61 E1) rfl rfl (fun _ => rfl) (fun _ => rfl) ?_
 unfold G61 sMax numV
 dsimp only
 have hH : Has ([] : Heap) [] := has_nil
 refine zpR ?_
 refine qV_new hH (ev_boxQ rfl rfl ⟨_, rfl⟩) (fun _ => rfl) fun n1 Hn1 hH => ?_
 refine qV_new hH (ev_boxQ rfl rfl ⟨_, rfl⟩) (fun _ => rfl) fun n2 Hn2 hH => ?_
 refine zV_q (vMv_q rfl) rfl ?_
 refine zpA ?_
 refine qd2 hH fun n3 Hn3 hH => ?_
 refine st (zLD_v (wL_loc rfl (has_get hH 3 rfl) rfl rfl) rfl spOk_nil) <| st (cP_idle rfl (c79x (k := k + 9) _ _) rfl) <| st (zLD_v (wL_loc rfl (has_get hH 2 rfl) rfl rfl) rfl (spOk_apart rfl spOk_nil)) <| st (cP_idle rfl (c78n (k := k + 48) _ _ n h) rfl) ?_
 refine zVD_q (vMv_q rfl) rfl ?_
 refine st zRet_app ?_
 exact ends_tmp rfl
theorem c84n {k : Nat} (Y : YE) (T : TH) (n : Nat) : CY (k + 1) Y (.func 84) [.int .i64 1, .agg (numV n)] T = some (.bool true, T, ⟨[], [], false⟩) := by
 refine call_go (zf := G84 E1) rfl rfl (fun _ => rfl) (fun _ => rfl) ?_
 unfold G84 numV
 dsimp only
 have hH : Has ([] : Heap) [] := has_nil
 refine zpR ?_
 refine qV_new hH (ev_boxQ rfl rfl ⟨_, rfl⟩) (fun _ => rfl) fun n1 Hn1 hH => ?_
 refine zV_q (vMv_q rfl) rfl ?_
 refine zpR <| st (zP_v (vInt_eq fEql_ok rfl rfl (tEql (by omega)))) ?_
 refine zGm_q rfl ?_
 refine zGm_q rfl ?_
 refine st (zP_v (vPick_t rfl)) ?_
 refine zGm_q rfl ?_
 refine zGm_q rfl ?_
 refine st (zP_v (vPick_t rfl)) ?_
 refine zV_q (vMv_q rfl) rfl ?_
 refine zpR <| st (zP_v (vInt_eq fEql_ok rfl rfl (fEql' (by omega)))) <| zph rfl <| st (zP_v (vMv_q rfl)) <| zph rfl <| st (zP_v (vInt_eq fEql_ok rfl rfl (fEql' (by omega)))) <| st (zP_v (vPick_f rfl)) <| zph rfl <| st (zP_v (vMv_q rfl)) <| zph rfl <| st (zP_v (vInt_eq fEql_ok rfl rfl (fEql' (by omega)))) <| st (zP_v (vPick_f rfl)) ?_
 refine zV_q (vMv_q rfl) rfl ?_
 refine zpR <| st (zP_v (vInt_eq fEql_ok rfl rfl (fEql' (by omega)))) <| zph rfl <| st (zP_v (vMv_q rfl)) <| zph rfl <| st (zP_v (vInt_eq fEql_ok rfl rfl (fEql' (by omega)))) <| st (zP_v (vPick_f rfl)) ?_
 refine zV_q (vMv_q rfl) rfl ?_
 refine zpR <| st (zP_v (vInt_eq fEql_ok rfl rfl (fEql' (by omega)))) <| zph rfl <| st (zP_v (vMv_q rfl)) <| zph rfl <| st (zP_v (vInt_eq fEql_ok rfl rfl (fEql' (by omega)))) <| st (zP_v (vPick_f rfl)) <| zph rfl <| st (zP_v (vMv_q rfl)) <| zph rfl <| st (zP_v (vInt_eq fEql_ok rfl rfl (fEql' (by omega)))) <| st (zP_v (vPick_f rfl)) ?_
 refine zV_q (vMv_q rfl) rfl ?_
 refine zpR ?_
 refine zGm_q rfl ?_
 refine zGm_q rfl ?_
 refine zGm_q rfl ?_
 refine st (zP_v (vPick_t rfl)) <| zph rfl <| st (zP_v (vMv_q rfl)) <| zph rfl <| st (zP_v (vInt_eq fEql_ok rfl rfl (fEql' (by omega)))) <| zph rfl <| st (zP_v (vMv_q rfl)) <| zph rfl <| st (zP_v (vFieldAddr_loc rfl)) <| zph rfl <| st (zL_v (wL_loc rfl (has_get hH 0 rfl) rfl rfl)) <| zph rfl <| st (zP_v (vInt_eq fEql_ok rfl rfl (tEql (by omega)))) <| zph rfl <| st (zP_v (vPick_f rfl)) <| st (zP_v (vPick_t rfl)) <| zph rfl <| st (zP_v (vMv_q rfl)) <| zph rfl <| st (zP_v (vMv_q rfl)) <| zph rfl <| st (zP_v (vFieldAddr_loc rfl)) <| zph rfl <| st (zL_v (wL_loc rfl (has_get hH 0 rfl) rfl rfl)) ?_
 refine zph rfl <| st (zP_v (vLenL_sl rfl)) <| zph rfl <| st (zP_v (vInt_eq fEql_ok rfl rfl (tEql (by omega)))) <| zph rfl <| st (zP_v (vPick_f rfl)) <| st (zP_v (vPick_t rfl)) <| zph rfl <| st (zP_v (vMv_q rfl)) <| zph rfl <| st (zP_v (vMv_q rfl)) <| zph rfl <| st (zP_v (vFieldAddr_loc rfl)) <| zph rfl <| st (zL_v (wL_loc rfl (has_get hH 0 rfl) rfl rfl)) <| zph rfl <| st (zP_v (vLenL_sl rfl)) <| zph rfl <| st (zP_v (vInt_eq fEql_ok rfl rfl (tEql (by omega)))) <| zph rfl <| st (zP_v (vPick_f rfl)) <| st (zP_v (vPick_t rfl)) <| zph rfl <| st (zP_v (vMv_q rfl)) ?_
 refine zph rfl <| st (zP_v (vMv_q rfl)) <| zph rfl <| st (zP_v (vFieldAddr_loc rfl)) <| zph rfl <| st (zL_v (wL_loc rfl (has_get hH 0 rfl) rfl rfl)) <| zph rfl <| st (zP_v (vLenL_sl rfl)) <| zph rfl <| st (zP_v (vInt_eq fEql_ok rfl rfl (tEql (by omega)))) <| zph rfl <| st (zP_v (vPick_f rfl)) <| st (zP_v (vPick_t rfl)) ?_
 refine zV_q (vMv_q rfl) rfl ?_
 refine st zRet_app ?_
 exact ends_tmp rfl
theorem c84m {k : Nat} (Y : YE) (T : TH) (s : Txt) (v : List Nat) (f1 f2 : Bool) : CY (k + 1) Y (.func 84) [.int .i64 4, .agg (mapV s f1 v f2)] T = some (.bool true, T, ⟨[], [], false⟩) := by
 refine call_go (zf := G84 E1) rfl rfl (fun _ => rfl) (fun _ => rfl) ?_
 unfold G84 mapV
 dsimp only
 have hH : Has ([] : Heap) [] := has_nil
 refine zpR ?_
 refine qV_new hH (ev_boxQ rfl rfl ⟨_, rfl⟩) (fun _ => rfl) fun n1 Hn1 hH => ?_
 refine zV_q (vMv_q rfl) rfl ?_
 refine zpR <| st (zP_v (vInt_eq fEql_ok rfl rfl (fEql' (by omega)))) <| zph rfl <| st (zP_v (vMv_q rfl)) <| zph rfl <| st (zP_v (vInt_eq fEql_ok rfl rfl (fEql' (by omega)))) <| st (zP_v (vPick_f rfl)) <| zph rfl <| st (zP_v (vMv_q rfl)) <| zph rfl <| st (zP_v (vInt_eq fEql_ok rfl rfl (fEql' (by omega)))) <| st (zP_v (vPick_f rfl)) ?_
 refine zV_q (vMv_q rfl) rfl ?_
 refine zpR <| st (zP_v (vInt_eq fEql_ok rfl rfl (fEql' (by omega)))) <| zph rfl <| st (zP_v (vMv_q rfl)) <| zph rfl <| st (zP_v (vInt_eq fEql_ok rfl rfl (tEql (by omega)))) <| st (zP_v (vPick_f rfl)) ?_
 refine zGm_q rfl ?_
 refine zGm_q rfl ?_
 refine st (zP_v (vPick_t rfl)) ?_
 refine zV_q (vMv_q rfl) rfl ?_
 refine zpR <| st (zP_v (vInt_eq fEql_ok rfl rfl (fEql' (by omega)))) <| zph rfl <| st (zP_v (vMv_q rfl)) <| zph rfl <| st (zP_v (vInt_eq fEql_ok rfl rfl (fEql' (by omega)))) <| st (zP_v (vPick_f rfl)) ?_
 refine zV_q (vMv_q rfl) rfl ?_
 refine zpR <| st (zP_v (vInt_eq fEql_ok rfl rfl (tEql (by omega)))) ?_
 refine zGm_q rfl ?_
 refine zGm_q rfl ?_
 refine st (zP_v (vPick_t rfl)) ?_
 refine zGm_q rfl ?_
 refine zGm_q rfl ?_
 refine st (zP_v (vPick_t rfl)) ?_
 refine zV_q (vMv_q rfl) rfl ?_
 refine zpR <| zph rfl <| st (zP_v (vFieldAddr_loc rfl)) <| zph rfl <| st (zL_v (wL_loc rfl (has_get hH 0 rfl) rfl rfl)) <| zph rfl <| st (zP_v (vInt_eq fEql_ok rfl rfl (tEql (by omega)))) <| st (zP_v (vPick_f rfl)) <| zph rfl <| st (zP_v (vMv_q rfl)) <| zph rfl <| st (zP_v (vInt_eq fEql_ok rfl rfl (fEql' (by omega)))) <| zph rfl <| st (zP_v (vMv_q rfl)) <| zph rfl <| st (zP_v (vFieldAddr_loc rfl)) <| zph rfl <| st (zL_v (wL_loc rfl (has_get hH 0 rfl) rfl rfl)) <| zph rfl <| st (zP_v (vInt_eq fEql_ok rfl rfl (tEql (by omega)))) <| zph rfl <| st (zP_v (vPick_f rfl)) <| st (zP_v (vPick_t rfl)) <| zph rfl ?_
 refine st (zP_v (vMv_q rfl)) <| zph rfl <| st (zP_v (vMv_q rfl)) ?_
 refine zGm_q rfl ?_
 refine zGm_q rfl ?_
 refine zGm_q rfl ?_
 refine zGm_q rfl ?_
 refine zph rfl <| st (zP_v (vPick_t rfl)) <| st (zP_v (vPick_t rfl)) <| zph rfl <| st (zP_v (vMv_q rfl)) <| zph rfl <| st (zP_v (vMv_q rfl)) <| zph rfl <| st (zP_v (vFieldAddr_loc rfl)) <| zph rfl <| st (zL_v (wL_loc rfl (has_get hH 0 rfl) rfl rfl)) <| zph rfl <| st (zP_v (vLenL_sl rfl)) <| zph rfl <| st (zP_v (vInt_eq fEql_ok rfl rfl (tEql (by omega)))) <| zph rfl <| st (zP_v (vPick_f rfl)) <| st (zP_v (vPick_t rfl)) <| zph rfl <| st (zP_v (vMv_q rfl)) <| zph rfl <| st (zP_v (vMv_q rfl)) ?_
 refine zGm_q rfl ?_
 refine zGm_q rfl ?_
 refine zGm_q rfl ?_
 refine zGm_q rfl ?_
 refine zph rfl <| st (zP_v (vPick_t rfl)) <| st (zP_v (vPick_t rfl)) ?_
 refine zV_q (vMv_q rfl) rfl ?_
 refine st zRet_app ?_
 exact ends_tmp rfl
theorem c75n {k : Nat} (Y : YE) (T : TH) (n : Nat) : CY (k + 2) Y (.func 75) [sMax, .agg (numV n)] T = some (.bool true, T, ⟨[], [], false⟩) := by
 refine call_go (zf := G75 E1) rfl rfl (fun _ => rfl) (fun _ => rfl) ?_
 unfold G75 numV sMax
 dsimp only
 have hH : Has ([] : Heap) [] := has_nil
 refine zpR ?_
 refine qV_new hH (ev_boxQ rfl rfl ⟨_, rfl⟩) (fun _ => rfl) fun n1 Hn1 hH => ?_
 refine qV_new hH (ev_boxQ rfl rfl ⟨_, rfl⟩) (fun _ => rfl) fun n2 Hn2 hH => ?_
 refine zV_q (vMv_q rfl) rfl ?_
 refine zpA <| zpR <| st (zP_v (vFieldAddr_loc rfl)) <| st (zL_v (wL_loc rfl (has_get hH 1 rfl) rfl rfl)) <| st (zL_v (wL_loc rfl (has_get hH 0 rfl) rfl rfl)) <| st (cP_call rfl (c84n _ _ n)) <| st (zP_v (vNot_eq rfl)) <| zph rfl <| st (zP_v (vFieldAddr_loc rfl)) <| zph rfl <| st (zL_v (wL_loc rfl (has_get hH 0 rfl) rfl rfl)) <| zph rfl <| st (zP_v (vLenL_sl rfl)) <| zph rfl <| st (zP_v (vInt_eq fGtr_ok rfl rfl (fGtr' (by omega)))) <| st (zP_v (vPick_f rfl)) <| zph rfl <| st (zP_v (vFieldAddr_loc rfl)) <| zph rfl <| st (zL_v (wL_loc rfl (has_get hH 0 rfl) rfl rfl)) <| zph rfl <| st (zP_v (vLenL_sl rfl)) <| zph rfl <| st (zP_v (vInt_eq fGtr_ok rfl rfl (fGtr' (by omega)))) ?_
 refine st (zP_v (vPick_f rfl)) <| zpf rfl <| zpK <| zpR <| st (sP_val (ev_mkFunc rfl)) ?_
 refine qV_new hH (ev_allocQ rfl) (fun _ => rfl) fun n3 Hn3 hH => ?_
 refine qN_put hH 0 rfl rfl rfl rfl ⟨_, rfl, rfl⟩ rfl rfl rfl fun H4 hH => ?_
 refine zpA <| zpR <| st (zP_v (vFieldAddr_loc rfl)) <| st (wV_load (wL_loc rfl (has_get hH 2 rfl) rfl rfl)) <| st zBlock_app <| zpR <| st (zP_v (vInt_eq fEql_ok rfl rfl (tEql (by omega)))) <| st (zP_v (vMv_q rfl)) <| zpt rfl <| zpR ?_
 refine zV_q (vMv_q rfl) rfl ?_
 refine st zRet_app ?_
 exact ends_tmp rfl
def sMapC : List AV := [.int .i64 4, .sl 1 [.int .i64 1, .sl 0 [] true] false]
theorem c85 {k : Nat} (Y : YE) (T : TH) (n : Nat) : CY (k + 3) Y (.func 85) [.agg (numV n), .ref sMapC] T = some (.bool true, T, ⟨[], [], false⟩) := by
 refine call_go (zf := G85 E1) rfl rfl (fun _ => rfl) (fun _ => rfl) ?_
 unfold G85 numV sMapC
 dsimp only
 have hH : Has ([] : Heap) [] := has_nil
 refine zpR ?_
 refine qV_new hH (ev_boxQ rfl rfl ⟨_, rfl⟩) (fun _ => rfl) fun n1 Hn1 hH => ?_
 refine zV_q (vMv_q rfl) rfl ?_
 refine zpA ?_
 refine qd1 hH fun n2 Hn2 hH => ?_
 refine st (zPD_v (vFieldAddr_ref rfl (by simp))) <| st (zLD_idle (wL_ref rfl rfl rfl) rfl) <| st (zPD_v (vIndexAddr_sl rfl rfl (by simp) (by simp))) <| st (zLD_idle (wL_ref rfl rfl rfl) rfl) <| st (zLD_v (wL_loc rfl (has_get hH 1 rfl) rfl rfl) rfl spOk_nil) <| st (cP_idle rfl (c75n _ _ n) rfl) ?_
 refine zVD_q (vMv_q rfl) rfl ?_
 refine st zRet_app ?_
 exact ends_tmp rfl
theorem c88 {k : Nat} (Y : YE) (T : TH) (n : Nat) (h : 0 < n) : CY (k + 51) Y (.func 88) [.agg (numV n), .ref [.clo 85 [.ref sMapC]], .ref sMapC] T = some (.bool false, T, ⟨[], [], false⟩) := by
 refine call_go (zf := G88 E1) rfl rfl (fun _ => rfl) (fun _ => rfl) ?_
 unfold G88 numV sMapC
 dsimp only
 have hH : Has ([] : Heap) [] := has_nil
 refine zpR ?_
 refine qV_new hH (ev_boxQ rfl rfl ⟨_, rfl⟩) (fun _ => rfl) fun n1 Hn1 hH => ?_
 refine zV_q (vMv_q rfl) rfl ?_
 refine zpA ?_
 refine qd2 hH fun n2 Hn2 hH => ?_
 refine st (zLD_idle (wL_ref rfl rfl rfl) rfl) <| st (zLD_v (wL_loc rfl (has_get hH 2 rfl) rfl rfl) rfl spOk_nil) <| st (dP_callI (c85 _ _ n) (ev_callv rfl rfl rfl) rfl rfl) <| st (zPD_v (vNot_eq rfl)) <| zpH rfl <| st (zPD_v (vFieldAddr_ref rfl (by simp))) <| zpH rfl <| st (zLD_idle (wL_ref rfl rfl rfl) rfl) <| zpH rfl <| st (zPD_v (vIndexAddr_sl rfl rfl (by simp) (by simp))) <| zpH rfl <| st (zLD_idle (wL_ref rfl rfl rfl) rfl) <| zpH rfl <| st (zLD_v (wL_loc rfl (has_get hH 2 rfl) rfl rfl) rfl (spOk_bef rfl spOk_nil)) <| zpH rfl <| st (cP_idle rfl (c61n _ _ n h) rfl) <| st (zPD_v (vPick_f rfl)) ?_
 refine zVD_q (vMv_q rfl) rfl ?_
 refine st zRet_app ?_
 exact ends_tmp rfl
noncomputable def body114 (call : CallTT) : CZ := xbody114 E1 call
theorem loop114 {P : Ans → Prop} {kn : KB} {kx : Nat → KB} {kr : KB} {k : Nat} {Y : YE} (s : List Nat) (f : Bool) (g : Nat) (caps : List AV) (hp : ∀ us, Plain E1 (.func g) us) (hs : s.length ≤ 1000000) (H : Heap) (hc : ∀ n ∈ s, ∃ ac, CY k Y (.func g) (.agg (numV n) :: caps) (rep H) = some (.bool false, rep H, ac)) (v5 : AV) (hk : ∀ L v1 v4, P (kx 0 L [.sl s.length (numC s) f, v1, iV s.length, .clo g caps, v4, v5] (rep H))) :
  ∀ (d i q : Nat) (L : List AV) (v4 : AV), i + d = s.length → d < q → P (zLoop q (body114 (CY k Y)) kn kx kr L [.sl s.length (numC s) f, iV i, iV s.length, .clo g caps, v4, v5] (rep H))
 | 0, i, q, L, v4, hi, hq => by
  obtain ⟨q, rfl⟩ : ∃ q', q = q' + 1 := ⟨q - 1, by omega⟩
  refine st zLoop_one ?_
  unfold body114 xbody114
  refine zpR <| st (zP_v (vInt_eq fLss_ok rfl rfl (fLss' (by omega)))) <| zpA <| zpf rfl <| st zExit_app ?_
  exact hk _ _ _
 | d + 1, i, q, L, v4, hi, hq => by
  obtain ⟨q, rfl⟩ : ∃ q', q = q' + 1 := ⟨q - 1, by omega⟩
  obtain ⟨a, ha⟩ := get_some (l := s) (i := i) (by omega)
  have hl := numC_len s
  obtain ⟨ac, hc1⟩ := hc a (List.mem_of_getElem? ha)
  refine st zLoop_one ?_
  unfold body114 xbody114
  refine zpR <| st (zP_v (vInt_eq fLss_ok rfl rfl (tLss (by omega)))) <| zpA <| zpt rfl <| zpK <| zpA <| st zBlock_app <| zpR <| st (zV_v (vMv_q rfl)) <| zpR <| st (zP_v (vIndexAddr_sl rfl rfl (by omega) (by omega))) ?_
  rw [num_at ha]
  refine st (zL_v (wL_ref rfl rfl rfl)) <| st (sP_call hc1 (ev_callv rfl rfl rfl) (hp _)) <| zpf rfl <| zpK <| st zReg_eq <| st (zP_v (vInt_eq fAdd_ok rfl rfl (aAdd1 (by omega)))) <| st (zV_v (vMv_q rfl)) ?_
  exact loop114 s f g caps hp hs H hc v5 hk d (i + 1) q _ _ (by omega) (by omega)
theorem c114 {k : Nat} {Y : YE} (s : List Nat) (f : Bool) (g : Nat) (caps : List AV) (hp : ∀ us, Plain E1 (.func g) us) (hs : s.length ≤ 1000000) (hk2 : s.length < k) (H : Heap) (hc : ∀ n ∈ s, ∃ ac, CY k Y (.func g) (.agg (numV n) :: caps) (rep H) = some (.bool false, rep H, ac)) :
  ∃ r H' ac, CY (k + 1) Y (.func 114) [.sl s.length (numC s) f, .clo g caps] (rep H) = some (r, rep H', ac) ∧ (r = .int .i64 (-1) ∧ H' = H) := by
 refine raw_go (E := E1) (GE := GE E1) (LZ := LZ E1) (f := 114) (zf := G114 E1) (args := [.sl s.length (numC s) f, .clo g caps]) (Q := fun r H' => r = .int .i64 (-1) ∧ H' = H) rfl rfl (fun _ => rfl) ?_
 unfold G114
 dsimp only
 refine zpR <| st (zV_v (vMv_q rfl)) <| zpA <| zpR <| st (zV_v (vLenL_sl rfl)) <| st (zV_v (vMv_q rfl)) <| st zBlock_app ?_
 refine loop114 s f g caps hp hs H hc _ (fun L v1 v4 => ?_) s.length 0 k _ _ (by omega) hk2
 refine st (ifZ_pos rfl) <| zpR <| st (zV_v (vMv_q rfl)) <| st zRet_app ?_
 exact ⟨_, _, rfl, rfl, rfl⟩
theorem c87 {k : Nat} {Y : YE} (s : List Nat) (f : Bool) (g : Nat) (caps : List AV) (hp : ∀ us, Plain E1 (.func g) us) (hs : s.length ≤ 1000000) (hk2 : s.length < k) (H : Heap) (hc : ∀ n ∈ s, ∃ ac, CY k Y (.func g) (.agg (numV n) :: caps) (rep H) = some (.bool false, rep H, ac)) :
  ∃ r H' ac, CY (k + 2) Y (.func 87) [.sl s.length (numC s) f, .clo g caps] (rep H) = some (r, rep H', ac) ∧ (r = .bool false ∧ H' = H) := by
 refine raw_go (E := E1) (GE := GE E1) (LZ := LZ E1) (f := 87) (zf := G87 E1) (args := [.sl s.length (numC s) f, .clo g caps]) (Q := fun r H' => r = .bool false ∧ H' = H) rfl rfl (fun _ => rfl) ?_
 unfold G87
 dsimp only
 obtain ⟨r, H', ac, h1, rfl, rfl⟩ := c114 (Y := Y) s f g caps hp hs hk2 H hc
 refine zpR <| st (zV_v (vMv_q rfl)) <| zpR <| st (cP_call rfl h1) <| st (zP_v (vInt_eq (fGen_ok (by simp) (by simp)) rfl rfl (fGeq' (by omega)))) <| st (zV_v (vMv_q rfl)) <| st zRet_app ?_
 exact ⟨_, _, rfl, rfl, rfl⟩
end Go.Proofs.PxM6
