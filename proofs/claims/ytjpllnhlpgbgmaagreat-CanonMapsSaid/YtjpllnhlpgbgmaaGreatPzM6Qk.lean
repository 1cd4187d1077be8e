/- Canon: Put on a map (walks by zauto). -/
import Derived.Test.YtjpllnhlpgbgmaaGreatPzM6Qj
set_option linter.unusedVariables false
set_option linter.unusedSimpArgs false
set_option maxRecDepth 100000
set_option maxHeartbeats 8000000
namespace Go.Proofs.PxM6
open Go Go.Px Go.Proofs
theorem c6m {k : Nat} (Y : YE) (T : TH) (s : Txt) (v : List Nat) (f1 f2 : Bool) (hsv : s.length = v.length) (hl : s.length ≤ 1000) (hk : 3000 ≤ k) (ht : ∀ t ∈ s, t.length ≤ 16) (hx : ∀ x ∈ List.zipWith oneM s v, OkM x.1 x.2) (hg : ∀ p q, List.zipWith oneM s v = p ++ q → OkM (foldM p).1 (foldM p).2) :
    CY (k + 63) Y (.func 6) [sMap, .agg (mapV s f1 v f2)] T = some (.tup [mapA (foldM (List.zipWith oneM s v)).1 (foldM (List.zipWith oneM s v)).2, .nilIface], T, ⟨[], [], false⟩) := by
  refine call_go (zf := G6 E1) rfl rfl (fun _ => rfl) (fun _ => rfl) ?_
  unfold G6 sMap mapV
  dsimp only
  have hH : Has ([] : Heap) [] := has_nil
  refine st (zSeq_reg) ?_
  refine qV_new hH (ev_boxQ rfl rfl ⟨_, rfl⟩) (fun _ => rfl) fun n1 Hn1 hH => ?_
  refine qV_new hH (ev_boxQ rfl rfl ⟨_, rfl⟩) (fun _ => rfl) fun n2 Hn2 hH => ?_
  refine qV_new hH (ev_allocQ rfl) (fun _ => rfl) fun n3 Hn3 hH => ?_
  refine zV_q (vMv_q rfl) rfl ?_
  refine st (zSeq_app) ?_
  refine st (zSeq_reg) ?_
  refine st (zL_v (wL_loc rfl (has_get hH 2 rfl) rfl rfl)) ?_
  refine st (cP_call rfl (c13m (k := k + 32) _ _)) ?_
  refine st (zP_v (vNot_eq rfl)) ?_
  refine st (zG_hit rfl) ?_
  refine st (zL_v (wL_loc rfl (has_get hH 2 rfl) rfl rfl)) ?_
  refine st (zG_hit rfl) ?_
  refine st (zL_v (wL_loc rfl (has_get hH 1 rfl) rfl rfl)) ?_
  refine st (zG_hit rfl) ?_
  refine st (cP_call rfl (c14m (k := k + 21) _ _ s v f1 f2 hsv hl ht (by omega))) ?_
  refine st (zG_hit rfl) ?_
  refine st (zP_v (vNot_eq rfl)) ?_
  refine st (zP_v (vPick_f rfl)) ?_
  refine st (zCond_f rfl) ?_
  refine st (zSkip_app) ?_
  refine st (zSeq_reg) ?_
  refine st (zL_v (wL_loc rfl (has_get hH 2 rfl) rfl rfl)) ?_
  refine st (zL_v (wL_loc rfl (has_get hH 1 rfl) rfl rfl)) ?_
  refine st (cP_call rfl (c15m (k := k) _ _ s v f1 f2 hsv hl hk hx hg)) ?_
  refine st (zP_v (vExt_eq rfl rfl)) ?_
  refine st (zP_v (vExt_eq rfl rfl)) ?_
  refine qN_put hH 0 rfl rfl rfl rfl ⟨_, rfl, rfl⟩ rfl rfl rfl fun H4 hH => ?_
  refine zV_q (vMv_q rfl) rfl ?_
  refine st (zRet_app) ?_
  exact ends_ct rfl (has_get hH 0 rfl) ⟨_, rfl, rfl, rfl⟩ rfl
/-! ### the reference's Same, of maps -/
noncomputable def body11 : CZ := (zSeq (zSeq (zReg fun k => (zP (vLenL (.v 0))) ((zP (vInt E1 fLss .lss 3 false false (.v 2) (.l 0))) k))
  (zCond (.l 0) zSkip (zExit 0)))
  (zSeq (zBlock 1 (zSeq (zDreg 0 fun n0 k => (zPD (vIndexAddr 1 (.v 0) (.v 2))) ((zLD B9 3 1 false (.l 0)) ((zPD (vIndexAddr 1 (.v 1) (.v 2))) ((zLD B9 7 1 false (.l 0)) ((zPD (vInt E1 fNeq .neq 9 false false (.l 2) (.l 0))) k)))))
  (zCond (.l 0) (zSeq (zReg fun k => (zV 3 (vMv (.k (.bool false)))) k)
  zRet) zSkip)))
  (zReg fun k => (zP (vMv (.v 2))) ((zP (vInt E1 fAdd .add 3 false true (.l 0) (.k (.int .i64 1)))) ((zV 2 (vMv (.l 0))) k)))))
theorem loop11 {P : Ans → Prop} {kn : KB} {kx : Nat → KB} {kr : KB} {T : TH} (s : Txt) (fa fb : Bool) (v3 : AV) (hs : s.length ≤ 1000000) (hk : ∀ L v2, P (kx 0 L [.sl s.length (txtC s) fa, .sl s.length (txtC s) fb, v2, v3] T)) :
    ∀ (d i q : Nat) (L : List AV), i + d = s.length → d < q → P (zLoop q (body11) kn kx kr L [.sl s.length (txtC s) fa, .sl s.length (txtC s) fb, iV i, v3] T)
  | 0, i, q, L, hi, hq => by
    obtain ⟨q, rfl⟩ : ∃ q', q = q' + 1 := ⟨q - 1, by omega⟩
    refine st zLoop_one ?_
    unfold body11
    refine st (zSeq_app) ?_
    refine st (zSeq_reg) ?_
    refine st (zP_v (vLenL_sl rfl)) ?_
    refine st (zP_v (vInt_eq fLss_ok rfl rfl (fLss' (by omega)))) ?_
    refine st (zCond_f rfl) ?_
    refine st (zExit_app) ?_
    exact hk _ _
  | d + 1, i, q, L, hi, hq => by
    obtain ⟨q, rfl⟩ : ∃ q', q = q' + 1 := ⟨q - 1, by omega⟩
    obtain ⟨a, ha⟩ := get_some (l := s) (i := i) (by omega)
    have hl := txtC_len s
    refine st zLoop_one ?_
    unfold body11
    have hself : (a == a) = true := by simp
    refine st (zSeq_app) ?_
    refine st (zSeq_reg) ?_
    refine st (zP_v (vLenL_sl rfl)) ?_
    refine st (zP_v (vInt_eq fLss_ok rfl rfl (tLss (by omega)))) ?_
    refine st (zCond_t rfl) ?_
    refine st (zSkip_app) ?_
    refine st (zSeq_app) ?_
    refine st (zBlock_app) ?_
    refine st (zSeq_app) ?_
    refine st (zDreg0) ?_
    refine st (zPD_v (vIndexAddr_sl rfl rfl (by omega) (by omega))) ?_
    rw [str_at ha]
    refine st (zLD_idle (wL_ref rfl rfl rfl) rfl) ?_
    refine st (zPD_v (vIndexAddr_sl rfl rfl (by omega) (by omega))) ?_
    rw [str_at ha]
    refine st (zLD_idle (wL_ref rfl rfl rfl) rfl) ?_
    refine st (zPD_v (vInt_bin rfl rfl rfl)) ?_
    refine st (zCond_f (bAVn hself)) ?_
    refine st (zSkip_app) ?_
    refine st (zReg_eq) ?_
    refine st (zP_v (vMv_q rfl)) ?_
    refine st (zP_v (vInt_eq fAdd_ok rfl rfl (aAdd1 (by omega)))) ?_
    refine st (zV_v (vMv_q rfl)) ?_
    exact loop11 s fa fb v3 hs hk d (i + 1) q _ (by omega) (by omega)
theorem c11 {k : Nat} (Y : YE) (T : TH) (s : Txt) (fa fb : Bool) (hs : s.length ≤ 1000) (hk : 1001 ≤ k) : CY (k + 1) Y (.func 11) [.sl s.length (txtC s) fa, .sl s.length (txtC s) fb] T = some (.bool true, T, ⟨[], [], false⟩) := by
  refine call_go (zf := G11 E1) rfl rfl (fun _ => rfl) (fun _ => rfl) ?_
  unfold G11
  dsimp only
  refine st (zSeq_reg) ?_
  refine st (zV_v (vMv_q rfl)) ?_
  refine st (zSeq_app) ?_
  refine st (zSeq_reg) ?_
  refine st (zP_v (vLenL_sl rfl)) ?_
  refine st (zP_v (vLenL_sl rfl)) ?_
  refine st (zP_v (vInt_eq fNeq_ok rfl rfl (fNeq' (by omega)))) ?_
  refine st (zCond_f rfl) ?_
  refine st (zSkip_app) ?_
  refine st (zSeq_app) ?_
  refine st (zSeq_reg) ?_
  refine st (zV_v (vMv_q rfl)) ?_
  refine st (zBlock_app) ?_
  refine loop11 s fa fb _ (by omega) (fun L v2 => ?_) s.length 0 k _ (by omega) (by omega)
  have hH : Has ([] : Heap) [] := has_nil
  refine st (ifZ_pos rfl) ?_
  refine st (zSeq_reg) ?_
  refine zV_q (vMv_q rfl) rfl ?_
  refine st (zRet_app) ?_
  exact ends_tmp rfl
theorem c8n {k : Nat} (Y : YE) (T : TH) (n : Nat) : CY (k + 1102) Y (.func 8) [.agg (numV n), .agg (numV n)] T = some (.bool true, T, ⟨[], [], false⟩) := by
  refine call_go (zf := G8 E1) rfl rfl (fun _ => rfl) (fun _ => rfl) ?_
  unfold G8 numV
  dsimp only
  have hH : Has ([] : Heap) [] := has_nil
  refine st (zSeq_reg) ?_
  refine qV_new hH (ev_boxQ rfl rfl ⟨_, rfl⟩) (fun _ => rfl) fun n1 Hn1 hH => ?_
  refine qV_new hH (ev_boxQ rfl rfl ⟨_, rfl⟩) (fun _ => rfl) fun n2 Hn2 hH => ?_
  refine zV_q (vMv_q rfl) rfl ?_
  refine st (zSeq_app) ?_
  refine st (zSeq_reg) ?_
  refine st (zP_v (vFieldAddr_loc rfl)) ?_
  refine st (zL_v (wL_loc rfl (has_get hH 1 rfl) rfl rfl)) ?_
  refine st (zP_v (vFieldAddr_loc rfl)) ?_
  refine st (zL_v (wL_loc rfl (has_get hH 0 rfl) rfl rfl)) ?_
  refine st (zP_v (vInt_eq fNeq_ok rfl rfl (fNeq' (by omega)))) ?_
  refine st (zG_hit rfl) ?_
  refine st (zP_v (vFieldAddr_loc rfl)) ?_
  refine st (zG_hit rfl) ?_
  refine st (zL_v (wL_loc rfl (has_get hH 1 rfl) rfl rfl)) ?_
  refine st (zG_hit rfl) ?_
  refine st (zP_v (vFieldAddr_loc rfl)) ?_
  refine st (zG_hit rfl) ?_
  refine st (zL_v (wL_loc rfl (has_get hH 0 rfl) rfl rfl)) ?_
  refine st (zG_hit rfl) ?_
  refine st (zP_v (vInt_eq fNeq_ok rfl rfl (fNeq' (by omega)))) ?_
  refine st (zP_v (vPick_f rfl)) ?_
  refine st (zG_hit rfl) ?_
  refine st (zP_v (vFieldAddr_loc rfl)) ?_
  refine st (zG_hit rfl) ?_
  refine st (zL_v (wL_loc rfl (has_get hH 1 rfl) rfl rfl)) ?_
  refine st (zG_hit rfl) ?_
  refine st (zP_v (vFieldAddr_loc rfl)) ?_
  refine st (zG_hit rfl) ?_
  refine st (zL_v (wL_loc rfl (has_get hH 0 rfl) rfl rfl)) ?_
  refine st (zG_hit rfl) ?_
  refine st (cP_call rfl (c11 (k := k + 1100) _ _ [] true true (by simp) (by omega))) ?_
  refine st (zG_hit rfl) ?_
  refine st (zP_v (vNot_eq rfl)) ?_
  refine st (zP_v (vPick_f rfl)) ?_
  refine st (zG_hit rfl) ?_
  refine st (zP_v (vFieldAddr_loc rfl)) ?_
  refine st (zG_hit rfl) ?_
  refine st (zL_v (wL_loc rfl (has_get hH 1 rfl) rfl rfl)) ?_
  refine st (zG_hit rfl) ?_
  refine st (zP_v (vLenL_sl rfl)) ?_
  refine st (zG_hit rfl) ?_
  refine st (zP_v (vFieldAddr_loc rfl)) ?_
  refine st (zG_hit rfl) ?_
  refine st (zL_v (wL_loc rfl (has_get hH 0 rfl) rfl rfl)) ?_
  refine st (zG_hit rfl) ?_
  refine st (zP_v (vLenL_sl rfl)) ?_
  refine st (zG_hit rfl) ?_
  refine st (zP_v (vInt_eq fNeq_ok rfl rfl (fNeq' (by omega)))) ?_
  refine st (zP_v (vPick_f rfl)) ?_
  refine st (zG_hit rfl) ?_
  refine st (zP_v (vFieldAddr_loc rfl)) ?_
  refine st (zG_hit rfl) ?_
  refine st (zL_v (wL_loc rfl (has_get hH 1 rfl) rfl rfl)) ?_
  refine st (zG_hit rfl) ?_
  refine st (zP_v (vLenL_sl rfl)) ?_
  refine st (zG_hit rfl) ?_
  refine st (zP_v (vFieldAddr_loc rfl)) ?_
  refine st (zG_hit rfl) ?_
  refine st (zL_v (wL_loc rfl (has_get hH 0 rfl) rfl rfl)) ?_
  refine st (zG_hit rfl) ?_
  refine st (zP_v (vLenL_sl rfl)) ?_
  refine st (zG_hit rfl) ?_
  refine st (zP_v (vInt_eq fNeq_ok rfl rfl (fNeq' (by omega)))) ?_
  refine st (zP_v (vPick_f rfl)) ?_
  refine st (zCond_f rfl) ?_
  refine st (zSkip_app) ?_
  refine st (zSeq_app) ?_
  refine st (zSeq_reg) ?_
  refine zV_q (vMv_q rfl) rfl ?_
  refine st (zBlock_app) ?_
  refine st zLoop_one ?_
  refine st (zSeq_app) ?_
  refine st (zSeq_reg) ?_
  refine st (zP_v (vFieldAddr_loc rfl)) ?_
  refine st (zL_v (wL_loc rfl (has_get hH 1 rfl) rfl rfl)) ?_
  refine st (zP_v (vLenL_sl rfl)) ?_
  refine st (zP_v (vInt_eq fLss_ok rfl rfl (fLss' (by omega)))) ?_
  refine st (zCond_f rfl) ?_
  refine st (zExit_app) ?_
  refine st (ifZ_pos rfl) ?_
  refine st (zSeq_app) ?_
  refine st (zSeq_reg) ?_
  refine zV_q (vMv_q rfl) rfl ?_
  refine st (zBlock_app) ?_
  refine st zLoop_one ?_
  refine st (zSeq_app) ?_
  refine st (zSeq_reg) ?_
  refine st (zP_v (vFieldAddr_loc rfl)) ?_
  refine st (zL_v (wL_loc rfl (has_get hH 1 rfl) rfl rfl)) ?_
  refine st (zP_v (vLenL_sl rfl)) ?_
  refine st (zP_v (vInt_eq fLss_ok rfl rfl (fLss' (by omega)))) ?_
  refine st (zCond_f rfl) ?_
  refine st (zExit_app) ?_
  refine st (ifZ_pos rfl) ?_
  refine st (zSeq_reg) ?_
  refine zV_q (vMv_q rfl) rfl ?_
  refine st (zRet_app) ?_
  exact ends_tmp rfl
noncomputable def body8 (call : CallTT) : CZ := (zSeq (zSeq (zReg fun k => (zP (vFieldAddr 4 (.v 2))) ((zL 1 false (.l 0)) ((zP (vLenL (.l 0))) ((zP (vInt E1 fLss .lss 3 false false (.v 5) (.l 0))) k))))
  (zCond (.l 0) zSkip (zExit 2)))
  (zSeq (zBlock 3 (zSeq (zDreg 1 fun n0 k => (zPD (vFieldAddr 4 (.v 2))) ((zLD B7 1 1 false (.l 0)) ((zPD (vIndexAddr 5 (.l 0) (.v 5))) ((zLD B7 4 5 true (.l 0)) ((zPD (vFieldAddr 4 (.v 3))) ((zLD B7 6 1 false (.l 0)) ((zPD (vIndexAddr 5 (.l 0) (.v 5))) ((zLD B7 9 5 true (.l 0)) ((zCallD call B7 10 8 [(.l 4), (.l 0)] .push) ((zPD (vNot (.l 0))) k))))))))))
  (zCond (.l 0) (zSeq (zReg fun k => (zV 6 (vMv (.k (.bool false)))) k)
  zRet) zSkip)))
  (zReg fun k => (zP (vMv (.v 5))) ((zP (vInt E1 fAdd .add 3 false true (.l 0) (.k (.int .i64 1)))) ((zV 5 (vMv (.l 0))) k)))))
theorem loop8 {P : Ans → Prop} {kn : KB} {kx : Nat → KB} {kr : KB} {k : Nat} {Y : YE} (s : Txt) (v : List Nat) (fa fb fc fd : Bool) (a1 a2 : Nat) (v0 v1 v4 v6 : AV) (hs : v.length ≤ 1000)
    (hk : ∀ L v5 H fr, Has H ((a2, .row 29 (mapV s fc v fd) false) :: (a1, .row 29 (mapV s fa v fb) false) :: fr) → P (kx 2 L [v0, v1, .loc a1 0, .loc a2 0, v4, v5, v6] (rep H))) :
    ∀ (d i q : Nat) (L : List AV) (H : Heap) (fr : HL), i + d = v.length → d < q → Has H ((a2, .row 29 (mapV s fc v fd) false) :: (a1, .row 29 (mapV s fa v fb) false) :: fr) →
      P (zLoop q (body8 (CY (k + 1102) Y)) kn kx kr L [v0, v1, .loc a1 0, .loc a2 0, v4, iV i, v6] (rep H))
  | 0, i, q, L, H, fr, hi, hq, hH => by
    obtain ⟨q, rfl⟩ : ∃ q', q = q' + 1 := ⟨q - 1, by omega⟩
    refine st zLoop_one ?_
    unfold body8
    refine st (zSeq_app) ?_
    refine st (zSeq_reg) ?_
    refine st (zP_v (vFieldAddr_loc rfl)) ?_
    refine st (zL_v (wL_loc rfl (has_get hH 1 rfl) rfl rfl)) ?_
    refine st (zP_v (vLenL_sl rfl)) ?_
    refine st (zP_v (vInt_eq fLss_ok rfl rfl (fLss' (by omega)))) ?_
    refine st (zCond_f rfl) ?_
    refine st (zExit_app) ?_
    exact hk _ _ _ _ hH
  | d + 1, i, q, L, H, fr, hi, hq, hH => by
    obtain ⟨q, rfl⟩ : ∃ q', q = q' + 1 := ⟨q - 1, by omega⟩
    obtain ⟨n, hn⟩ := get_some (l := v) (i := i) (by omega)
    have hll := numC_len v
    refine st zLoop_one ?_
    unfold body8
    refine st (zSeq_app) ?_
    refine st (zSeq_reg) ?_
    refine st (zP_v (vFieldAddr_loc rfl)) ?_
    refine st (zL_v (wL_loc rfl (has_get hH 1 rfl) rfl rfl)) ?_
    refine st (zP_v (vLenL_sl rfl)) ?_
    refine st (zP_v (vInt_eq fLss_ok rfl rfl (tLss (by omega)))) ?_
    refine st (zCond_t rfl) ?_
    refine st (zSkip_app) ?_
    refine st (zSeq_app) ?_
    refine st (zBlock_app) ?_
    refine st (zSeq_app) ?_
    refine qd1 hH fun n1 Hn1 hH => ?_
    refine st (zPD_v (vFieldAddr_loc rfl)) ?_
    refine st (zLD_v (wL_loc rfl (has_get hH 2 rfl) rfl rfl) rfl spOk_nil) ?_
    refine st (zPD_v (vIndexAddr_sl rfl rfl (by omega) (by omega))) ?_
    rw [num_at hn]
    refine st (zLD_idle (wL_ref rfl rfl rfl) rfl) ?_
    refine st (zPD_v (vFieldAddr_loc rfl)) ?_
    refine st (zLD_v (wL_loc rfl (has_get hH 1 rfl) rfl rfl) rfl (spOk_apart rfl spOk_nil)) ?_
    refine st (zPD_v (vIndexAddr_sl rfl rfl (by omega) (by omega))) ?_
    rw [num_at hn]
    refine st (zLD_idle (wL_ref rfl rfl rfl) rfl) ?_
    refine st (cP_idle rfl (c8n (k := k) _ _ n) rfl) ?_
    refine st (zPD_v (vNot_eq rfl)) ?_
    refine st (zCond_f rfl) ?_
    refine st (zSkip_app) ?_
    refine st (zReg_eq) ?_
    refine st (zP_v (vMv_q rfl)) ?_
    refine st (zP_v (vInt_eq fAdd_ok rfl rfl (aAdd1 (by omega)))) ?_
    refine zV_q (vMv_q rfl) rfl ?_
    exact loop8 s v fa fb fc fd a1 a2 v0 v1 v4 v6 hs hk d (i + 1) q _ _ fr (by omega) (by omega) (by repeat' first | exact hH | apply has_tail)
theorem c8m {k : Nat} (Y : YE) (T : TH) (s : Txt) (v : List Nat) (fa fb fc fd : Bool) (hs : s.length ≤ 1000) (hv : v.length ≤ 1000) : CY (k + 1103) Y (.func 8) [.agg (mapV s fa v fb), .agg (mapV s fc v fd)] T = some (.bool true, T, ⟨[], [], false⟩) := by
  refine call_go (zf := G8 E1) rfl rfl (fun _ => rfl) (fun _ => rfl) ?_
  unfold G8
  dsimp only
  have hH : Has ([] : Heap) [] := has_nil
  refine st (zSeq_reg) ?_
  refine qV_new hH (ev_boxQ rfl rfl ⟨_, rfl⟩) (fun _ => rfl) fun n1 Hn1 hH => ?_
  refine qV_new hH (ev_boxQ rfl rfl ⟨_, rfl⟩) (fun _ => rfl) fun n2 Hn2 hH => ?_
  refine zV_q (vMv_q rfl) rfl ?_
  refine st (zSeq_app) ?_
  refine st (zSeq_reg) ?_
  refine st (zP_v (vFieldAddr_loc rfl)) ?_
  refine st (zL_v (wL_loc rfl (has_get hH 1 rfl) rfl rfl)) ?_
  refine st (zP_v (vFieldAddr_loc rfl)) ?_
  refine st (zL_v (wL_loc rfl (has_get hH 0 rfl) rfl rfl)) ?_
  refine st (zP_v (vInt_eq fNeq_ok rfl rfl (fNeq' (by omega)))) ?_
  refine st (zG_hit rfl) ?_
  refine st (zP_v (vFieldAddr_loc rfl)) ?_
  refine st (zG_hit rfl) ?_
  refine st (zL_v (wL_loc rfl (has_get hH 1 rfl) rfl rfl)) ?_
  refine st (zG_hit rfl) ?_
  refine st (zP_v (vFieldAddr_loc rfl)) ?_
  refine st (zG_hit rfl) ?_
  refine st (zL_v (wL_loc rfl (has_get hH 0 rfl) rfl rfl)) ?_
  refine st (zG_hit rfl) ?_
  refine st (zP_v (vInt_eq fNeq_ok rfl rfl (fNeq' (by omega)))) ?_
  refine st (zP_v (vPick_f rfl)) ?_
  refine st (zG_hit rfl) ?_
  refine st (zP_v (vFieldAddr_loc rfl)) ?_
  refine st (zG_hit rfl) ?_
  refine st (zL_v (wL_loc rfl (has_get hH 1 rfl) rfl rfl)) ?_
  refine st (zG_hit rfl) ?_
  refine st (zP_v (vFieldAddr_loc rfl)) ?_
  refine st (zG_hit rfl) ?_
  refine st (zL_v (wL_loc rfl (has_get hH 0 rfl) rfl rfl)) ?_
  refine st (zG_hit rfl) ?_
  refine st (cP_call rfl (c11 (k := k + 1101) _ _ s _ _ hs (by omega))) ?_
  refine st (zG_hit rfl) ?_
  refine st (zP_v (vNot_eq rfl)) ?_
  refine st (zP_v (vPick_f rfl)) ?_
  refine st (zG_hit rfl) ?_
  refine st (zP_v (vFieldAddr_loc rfl)) ?_
  refine st (zG_hit rfl) ?_
  refine st (zL_v (wL_loc rfl (has_get hH 1 rfl) rfl rfl)) ?_
  refine st (zG_hit rfl) ?_
  refine st (zP_v (vLenL_sl rfl)) ?_
  refine st (zG_hit rfl) ?_
  refine st (zP_v (vFieldAddr_loc rfl)) ?_
  refine st (zG_hit rfl) ?_
  refine st (zL_v (wL_loc rfl (has_get hH 0 rfl) rfl rfl)) ?_
  refine st (zG_hit rfl) ?_
  refine st (zP_v (vLenL_sl rfl)) ?_
  refine st (zG_hit rfl) ?_
  refine st (zP_v (vInt_eq fNeq_ok rfl rfl (fNeq' (by omega)))) ?_
  refine st (zP_v (vPick_f rfl)) ?_
  refine st (zG_hit rfl) ?_
  refine st (zP_v (vFieldAddr_loc rfl)) ?_
  refine st (zG_hit rfl) ?_
  refine st (zL_v (wL_loc rfl (has_get hH 1 rfl) rfl rfl)) ?_
  refine st (zG_hit rfl) ?_
  refine st (zP_v (vLenL_sl rfl)) ?_
  refine st (zG_hit rfl) ?_
  refine st (zP_v (vFieldAddr_loc rfl)) ?_
  refine st (zG_hit rfl) ?_
  refine st (zL_v (wL_loc rfl (has_get hH 0 rfl) rfl rfl)) ?_
  refine st (zG_hit rfl) ?_
  refine st (zP_v (vLenL_sl rfl)) ?_
  refine st (zG_hit rfl) ?_
  refine st (zP_v (vInt_eq fNeq_ok rfl rfl (fNeq' (by omega)))) ?_
  refine st (zP_v (vPick_f rfl)) ?_
  refine st (zCond_f rfl) ?_
  refine st (zSkip_app) ?_
  refine st (zSeq_app) ?_
  refine st (zSeq_reg) ?_
  refine zV_q (vMv_q rfl) rfl ?_
  refine st (zBlock_app) ?_
  refine st zLoop_one ?_
  refine st (zSeq_app) ?_
  refine st (zSeq_reg) ?_
  refine st (zP_v (vFieldAddr_loc rfl)) ?_
  refine st (zL_v (wL_loc rfl (has_get hH 1 rfl) rfl rfl)) ?_
  refine st (zP_v (vLenL_sl rfl)) ?_
  refine st (zP_v (vInt_eq fLss_ok rfl rfl (fLss' (by omega)))) ?_
  refine st (zCond_f rfl) ?_
  refine st (zExit_app) ?_
  refine st (ifZ_pos rfl) ?_
  refine st (zSeq_app) ?_
  refine st (zSeq_reg) ?_
  refine zV_q (vMv_q rfl) rfl ?_
  refine st (zBlock_app) ?_
  refine loop8 (k := k) s v fa fb fc fd _ _ _ _ _ _ hv (fun L v5 H fr hH => ?_) v.length 0 _ _ _ [] (by omega) (by omega) hH
  refine st (ifZ_pos rfl) ?_
  refine st (zSeq_reg) ?_
  refine zV_q (vMv_q rfl) rfl ?_
  refine st (zRet_app) ?_
  exact ends_tmp rfl
end Go.Proofs.PxM6
