/- Canon: Put on a map (walks by zauto). -/
import Derived.Test.YtjpllnhlpgbgmaaGreatPzM6Qi
set_option linter.unusedVariables false
set_option linter.unusedSimpArgs false
set_option maxRecDepth 100000
namespace Go.Proofs.PxM6
open Go Go.Px Go.Proofs
theorem ev_min0 {E : Env} {L V : List AV} {H : Heap} {a b : O} {k : IntKind} {i : Nat} (ha : gO L V a = .int k (i : Int)) (hb : gO L V b = .int k 0) : evalFA E L V H (.most false [a, b]) = some (.val (.int k 0), Acc.none) := by
 rw [ev_min ha hb]
 congr 4
 omega
theorem c56e {k : Nat} {Y : YE} (H : Heap) : ∃ r H' ac, CY (k + 3) Y (.func 56) [.sl 0 [] true, .clo 33 []] (rep H) = some (r, rep H', ac) ∧ (r = .int .i64 (-1) ∧ H' = H) := by
 refine raw_go (E := E1) (GE := GE E1) (LZ := LZ E1) (f := 56) (zf := G56 E1) (args := [.sl 0 [] true, .clo 33 []]) (Q := fun r H' => r = .int .i64 (-1) ∧ H' = H) rfl rfl (fun _ => rfl) ?_
 unfold G56
 dsimp only
 refine zpR <| st (zV_v (vMv_q rfl)) <| zpA <| zpR <| st (zV_v (vLenL_sl rfl)) <| st (zV_v (vMv_q rfl)) <| st zBlock_app ?_
 refine st zLoop_one ?_
 refine zpR <| st (zP_v (vInt_eq fLss_ok rfl rfl (fLss' (by omega)))) <| zpA <| zpf rfl <| st zExit_app <| st (ifZ_pos rfl) <| zpR <| st (zV_v (vMv_q rfl)) <| st zRet_app ?_
 exact ⟨_, _, rfl, rfl, rfl⟩
theorem c32e {k : Nat} {Y : YE} (H : Heap) : ∃ r H' ac, CY (k + 4) Y (.func 32) [.sl 0 [] true, .clo 33 []] (rep H) = some (r, rep H', ac) ∧ (r = .bool false ∧ H' = H) := by
 refine raw_go (E := E1) (GE := GE E1) (LZ := LZ E1) (f := 32) (zf := G32 E1) (args := [.sl 0 [] true, .clo 33 []]) (Q := fun r H' => r = .bool false ∧ H' = H) rfl rfl (fun _ => rfl) ?_
 unfold G32
 dsimp only
 refine zpR <| st (zV_v (vMv_q rfl)) <| zpR ?_
 (obtain ⟨r, H9, ac, hc, rfl, e⟩ := c56e (k := k) (Y := Y) H; rw [e] at hc; refine st (cP_call rfl hc) ?_)
 refine st (zP_v (vInt_eq (fGen_ok (by simp) (by simp)) rfl rfl (fGeq' (by omega)))) <| st (zV_v (vMv_q rfl)) <| st zRet_app ?_
 exact ⟨_, _, rfl, rfl, rfl⟩
set_option maxHeartbeats 2000000 in
theorem c14n {k : Nat} (Y : YE) (T : TH) (n : Nat) : CY (k + 40) Y (.func 14) [sMax, .agg (numV n)] T = some (.bool true, T, ⟨[], [], false⟩) := by
 refine call_go (zf := G14 E1) rfl rfl (fun _ => rfl) (fun _ => rfl) ?_
 unfold G14 numV sMax
 dsimp only
 have hH : Has ([] : Heap) [] := has_nil
 refine zpR ?_
 refine qV_new hH (ev_boxQ rfl rfl ⟨_, rfl⟩) (fun _ => rfl) fun n1 Hn1 hH => ?_
 refine qV_new hH (ev_boxQ rfl rfl ⟨_, rfl⟩) (fun _ => rfl) fun n2 Hn2 hH => ?_
 refine zV_q (vMv_q rfl) rfl ?_
 refine zpR <| st (zP_v (vFieldAddr_loc rfl)) <| st (zL_v (wL_loc rfl (has_get hH 0 rfl) rfl rfl)) ?_
 (obtain ⟨r, H9, ac, hc, rfl, e⟩ := c29 (k := k + 37) (Y := []) [] true 30 (fun _ => rfl) (by simp) (by simp) Hn2 (fun t h => by simp at h); rw [e] at hc; refine st (cP_call rfl hc) ?_)
 refine zV_q (vMv_q rfl) rfl ?_
 refine zpA <| zpR <| zph rfl <| st (zP_v (vFieldAddr_loc rfl)) <| zph rfl <| st (zL_v (wL_loc rfl (has_get hH 1 rfl) rfl rfl)) <| zph rfl <| st (zL_v (wL_loc rfl (has_get hH 0 rfl) rfl rfl)) <| zph rfl <| st (cP_call rfl (c31n (k := k + 9) _ _ n)) <| zph rfl <| st (zP_v (vNot_eq rfl)) <| st (zP_v (vPick_f rfl)) <| zph rfl <| st (zP_v (vFieldAddr_loc rfl)) <| zph rfl <| st (zL_v (wL_loc rfl (has_get hH 0 rfl) rfl rfl)) <| zph rfl ?_
 (obtain ⟨r, H9, ac, hc, rfl, e⟩ := c32e (k := k + 35) (Y := []) Hn2; rw [e] at hc; refine st (cP_call rfl hc) ?_)
 refine st (zP_v (vPick_f rfl)) <| zpf rfl <| zpK <| zpA <| zpR <| st (zP_v (vFieldAddr_loc rfl)) <| st (wV_load (wL_loc rfl (has_get hH 0 rfl) rfl rfl)) <| st (zV_v (vLenL_sl rfl)) ?_
 refine zV_q (vMv_q rfl) rfl ?_
 refine st zBlock_app ?_
 refine st zLoop_one ?_
 refine zpR <| st (zP_v (vInt_eq fLss_ok rfl rfl (fLss' (by omega)))) <| zpA <| zpf rfl <| st zExit_app <| st (ifZ_pos rfl) <| zpR ?_
 refine zV_q (vMv_q rfl) rfl ?_
 refine st zRet_app ?_
 exact ends_tmp rfl
noncomputable def body14 (call : CallTT) : CZ := xbody14 E1 call
set_option maxHeartbeats 2000000 in
theorem loop14 {P : Ans → Prop} {kn : KB} {kx : Nat → KB} {kr : KB} {k : Nat} {Y : YE} (v : List Nat) (f2 : Bool) (a1 a2 : Nat) (R : AO) (v0 v1 : AV) (hs : v.length ≤ 1000)
  (hk : ∀ L v5 v8 v9 H fr, Has H ((a2, R) :: (a1, sMapR) :: fr) → P (kx 0 L [v0, v1, .loc a2 0, .bool false, .loc a1 0, v5, iV v.length, .sl v.length (numC v) f2, v8, v9, .bool false] (rep H))) :
  ∀ (d i q : Nat) (L : List AV) (H : Heap) (fr : HL) (v8 v9 : AV), i + d = v.length → d < q → Has H ((a2, R) :: (a1, sMapR) :: fr) →
   P (zLoop q (body14 (CY (k + 40) Y)) kn kx kr L [v0, v1, .loc a2 0, .bool false, .loc a1 0, iV i, iV v.length, .sl v.length (numC v) f2, v8, v9, .bool false] (rep H))
 | 0, i, q, L, H, fr, v8, v9, hi, hq, hH => by
  obtain ⟨q, rfl⟩ : ∃ q', q = q' + 1 := ⟨q - 1, by omega⟩
  refine st zLoop_one ?_
  unfold body14 xbody14
  refine zpR <| st (zP_v (vInt_eq fLss_ok rfl rfl (fLss' (by omega)))) <| zpA <| zpf rfl <| st zExit_app ?_
  exact hk _ _ _ _ _ _ hH
 | d + 1, i, q, L, H, fr, v8, v9, hi, hq, hH => by
  obtain ⟨q, rfl⟩ : ∃ q', q = q' + 1 := ⟨q - 1, by omega⟩
  obtain ⟨n, hn⟩ := get_some (l := v) (i := i) (by omega)
  have hll := numC_len v
  refine st zLoop_one ?_
  unfold body14 xbody14
  simp only [sMapR] at hH
  refine zpR <| st (zP_v (vInt_eq fLss_ok rfl rfl (tLss (by omega)))) <| zpA <| zpt rfl <| zpK <| zpA <| st zBlock_app <| zpR <| st (zP_v (vIndexAddr_sl rfl rfl (by omega) (by omega))) ?_
  rw [num_at hn]
  refine st (zL_v (wL_ref rfl rfl rfl)) ?_
  refine qV_new hH (ev_allocQ rfl) (fun _ => rfl) fun n1 Hn1 hH => ?_
  refine zV_q (vMv_q rfl) rfl ?_
  refine qN_put hH 0 rfl rfl rfl rfl ⟨_, rfl, rfl⟩ rfl rfl rfl fun H2 hH => ?_
  refine zpA ?_
  refine qd1 hH fun n3 Hn3 hH => ?_
  refine st (zPD_v (vFieldAddr_loc rfl)) <| st (zLD_v (wL_loc rfl (has_get hH 3 rfl) rfl rfl) rfl spOk_nil) <| st (zPD_v (vFieldAddr_loc rfl)) <| st (zLD_v (wL_loc rfl (has_get hH 3 rfl) rfl rfl) rfl (spOk_apart rfl spOk_nil)) <| st (zPD_v (vLenL_sl rfl)) <| st (zPD_v (vInt_eq fSub_ok rfl rfl (aSubS (by omega)))) <| st (dP_val (ev_min0 rfl rfl) rfl) <| st (zPD_v (vIndexAddr_sl rfl rfl (by simp) (by simp))) <| st (zLD_idle (wL_ref rfl rfl rfl) rfl) <| st (zLD_v (wL_loc rfl (has_get hH 1 rfl) rfl rfl) rfl (spOk_apart rfl (spOk_apart rfl spOk_nil))) <| st (cP_idle rfl (c14n (k := k) _ _ n) rfl) <| st (zPD_v (vNot_eq rfl)) <| zpf rfl <| zpK <| st zReg_eq <| st (zP_v (vInt_eq fAdd_ok rfl rfl (aAdd1 (by omega)))) ?_
  refine zV_q (vMv_q rfl) rfl ?_
  exact loop14 v f2 a1 a2 R v0 v1 hs hk d (i + 1) q _ _ fr _ _ (by omega) (by omega) (by repeat' first | exact hH | apply has_tail)
set_option maxHeartbeats 2000000 in
theorem c14m {k : Nat} (Y : YE) (T : TH) (s : Txt) (v : List Nat) (f1 f2 : Bool) (h : s.length = v.length) (hl : s.length ≤ 1000) (ht : ∀ t ∈ s, t.length ≤ 16) (hk : 3000 ≤ k) : CY (k + 41) Y (.func 14) [sMap, .agg (mapV s f1 v f2)] T = some (.bool true, T, ⟨[], [], false⟩) := by
 refine call_go (zf := G14 E1) rfl rfl (fun _ => rfl) (fun _ => rfl) ?_
 unfold G14 mapV sMap
 dsimp only
 have hH : Has ([] : Heap) [] := has_nil
 refine zpR ?_
 refine qV_new hH (ev_boxQ rfl rfl ⟨_, rfl⟩) (fun _ => rfl) fun n1 Hn1 hH => ?_
 refine qV_new hH (ev_boxQ rfl rfl ⟨_, rfl⟩) (fun _ => rfl) fun n2 Hn2 hH => ?_
 refine zV_q (vMv_q rfl) rfl ?_
 refine zpR <| st (zP_v (vFieldAddr_loc rfl)) <| st (zL_v (wL_loc rfl (has_get hH 0 rfl) rfl rfl)) ?_
 (obtain ⟨r, H9, ac, hc, rfl, e⟩ := c29 (k := k + 38) (Y := []) s f1 30 (fun _ => rfl) (by omega) (by omega) Hn2 (fun t h => c30 _ _ t (ht t h)); rw [e] at hc; refine st (cP_call rfl hc) ?_)
 refine zV_q (vMv_q rfl) rfl ?_
 refine zpA <| zpR <| zph rfl <| st (zP_v (vFieldAddr_loc rfl)) <| zph rfl <| st (zL_v (wL_loc rfl (has_get hH 1 rfl) rfl rfl)) <| zph rfl <| st (zL_v (wL_loc rfl (has_get hH 0 rfl) rfl rfl)) <| zph rfl <| st (cP_call rfl (c31m (k := k + 10) _ _ s v _ _ h)) <| zph rfl <| st (zP_v (vNot_eq rfl)) <| st (zP_v (vPick_f rfl)) <| zph rfl <| st (zP_v (vFieldAddr_loc rfl)) <| zph rfl <| st (zL_v (wL_loc rfl (has_get hH 0 rfl) rfl rfl)) <| zph rfl ?_
 (obtain ⟨r, H9, ac, hc, rfl, e⟩ := c32e (k := k + 36) (Y := []) Hn2; rw [e] at hc; refine st (cP_call rfl hc) ?_)
 refine st (zP_v (vPick_f rfl)) <| zpf rfl <| zpK <| zpA <| zpR <| st (zP_v (vFieldAddr_loc rfl)) <| st (wV_load (wL_loc rfl (has_get hH 0 rfl) rfl rfl)) <| st (zV_v (vLenL_sl rfl)) ?_
 refine zV_q (vMv_q rfl) rfl ?_
 refine st zBlock_app ?_
 refine loop14 (k := k) v f2 _ _ _ _ _ (by omega) (fun L v5 v8 v9 H fr hH => ?_) v.length 0 (k + 40) _ _ [] _ _ (by omega) (by omega) hH
 refine st (ifZ_pos rfl) <| zpR ?_
 refine zV_q (vMv_q rfl) rfl ?_
 refine st zRet_app ?_
 exact ends_tmp rfl
end Go.Proofs.PxM6
