/- CanonMaps walked. -/
import Derived.Test.YtjpllnhlpgbgmaaGreatPzM6Qn
set_option linter.unusedVariables false
set_option linter.unusedSimpArgs false
set_option maxRecDepth 100000
set_option maxHeartbeats 8000000
namespace Go.Proofs.PxM6
open Go Go.Px Go.Proofs
theorem c5 {k : Nat} (Y : YE) (T : TH) : CY (k + 600) Y (.func 5) [] T = some (.bool true, T, ⟨[], [], false⟩) := call_go (zf := G5 E1) rfl rfl (fun _ => rfl) (fun _ => rfl) (endsB_ok (by kernel_rfl))
theorem c7a {k : Nat} (Y : YE) (T : TH) : CY (k + 10) Y (.func 7) [.int .i64 1, .sl 0 [] true] T = some (sMax, T, ⟨[], [], false⟩) := call_go (zf := G7 E1) rfl rfl (fun _ => rfl) (fun _ => rfl) (endsB_ok (by kernel_rfl))
theorem c7b {k : Nat} (Y : YE) (T : TH) : CY (k + 10) Y (.func 7) [.int .i64 4, .sl 1 [.int .i64 1, .sl 0 [] true] false] T = some (sMap, T, ⟨[], [], false⟩) := call_go (zf := G7 E1) rfl rfl (fun _ => rfl) (fun _ => rfl) (endsB_ok (by kernel_rfl))
theorem fz_mapv {g : Nat → Option AO} {nS nV n : Nat} {s : Txt} {v : List Nat} {b1 b2 : Bool} (h1 : g nS = some (.row 9 (txtC s) b1)) (h2 : g nV = some (.row 29 (numC v) b2)) (hs : s.length = n) (hv : v.length = n) (k : Nat) :
    fzG E1 g (k + 3) (.agg [.int .u64 0, .int .u64 0, .own nS 0 n 1, .sl 0 [] true, .own nV 0 n 5]) = some (.agg (mapV s false v false), [nS, nV]) := by
  have e1 : fzG E1 g (k + 2) (.own nS 0 n 1) = some (.sl n (txtC s) false, [nS]) := fzG_ownX h1 (by rw [txtC_len]; omega) (fzL_txt g k s)
  have e2 : fzG E1 g (k + 2) (.own nV 0 n 5) = some (.sl n (numC v) false, [nV]) := fzG_ownX h2 (by rw [numC_len]; omega) (fzL_num g k v)
  rw [fzG]
  simp only [fzL, e1, e2, Option.bind_eq_bind, Option.bind_some, mapV, hs, hv]
  rfl
theorem c3a {k : Nat} (Y : YE) (T : TH) (ks ns : List Nat) (fk fn : Bool) (hl : 30 < ks.length) (hl2 : ks.length < 9223372036854775808) : CY (k + 5001) Y (.func 3) [.sl ks.length (byC ks) fk, .sl ns.length (byC ns) fn] T = some (.bool true, T, ⟨[], [], false⟩) := by
  refine call_go (zf := G3 E1) rfl rfl (fun _ => rfl) (fun _ => rfl) ?_
  unfold G3
  dsimp only
  have hH : Has ([] : Heap) [] := has_nil
  refine st (zSeq_reg) ?_
  refine zV_q (vMv_q rfl) rfl ?_
  refine st (zSeq_app) ?_
  refine st (zSeq_reg) ?_
  refine st (cP_call rfl (c5 (k := k + 4400) _ _)) ?_
  refine st (zP_v (vNot_eq rfl)) ?_
  refine st (zCond_f rfl) ?_
  refine st (zSkip_app) ?_
  refine st (zSeq_app) ?_
  refine st (zSeq_reg) ?_
  refine st (zP_v (vLenL_sl rfl)) ?_
  refine st (zP_v (vInt_eq fGtr_ok rfl rfl (tGtr (by omega)))) ?_
  refine st (zCond_t rfl) ?_
  refine st (zSeq_reg) ?_
  refine zV_q (vMv_q rfl) rfl ?_
  refine st (zRet_app) ?_
  exact ends_tmp rfl
set_option maxHeartbeats 8000000 in
theorem c3b {k : Nat} (Y : YE) (T : TH) (ks ns : List Nat) (fk fn : Bool) (hks : ∀ x ∈ ks, x < 256) (hns : ∀ x ∈ ns, x < 256) (hl : ks.length ≤ 30)
    (hx : ∀ x ∈ List.zipWith oneM (ks.map tAt) (numsI ns ks.length), OkM x.1 x.2) (hg : ∀ p q, List.zipWith oneM (ks.map tAt) (numsI ns ks.length) = p ++ q → OkM (foldM p).1 (foldM p).2)
    (hw : foldM (List.zipWith oneM (ks.map tAt) (numsI ns ks.length)) = wantI (mostI ks ns ks.length) 8) :
    CY (k + 5001) Y (.func 3) [.sl ks.length (byC ks) fk, .sl ns.length (byC ns) fn] T = some (.bool true, T, ⟨[], [], false⟩) := by
  have e1 : (ks.map tAt).length = ks.length := by simp
  have e2 : (numsI ns ks.length).length = ks.length := by simp [numsI]
  have e3 : ∀ t ∈ ks.map tAt, t.length ≤ 16 := fun t h => by
    obtain ⟨x, _, rfl⟩ := List.mem_map.1 h
    simp [tAt]
  obtain ⟨w1, w2⟩ := wantI_len (mostI ks ns ks.length) 8
  have hm8 := mostI_len ks ns ks.length
  refine call_go (zf := G3 E1) rfl rfl (fun _ => rfl) (fun _ => rfl) ?_
  unfold G3
  dsimp only
  have hH : Has ([] : Heap) [] := has_nil
  refine st (zSeq_reg) ?_
  refine zV_q (vMv_q rfl) rfl ?_
  refine st (zSeq_app) ?_
  refine st (zSeq_reg) ?_
  refine st (cP_call rfl (c5 (k := k + 4400) _ _)) ?_
  refine st (zP_v (vNot_eq rfl)) ?_
  refine st (zCond_f rfl) ?_
  refine st (zSkip_app) ?_
  refine st (zSeq_app) ?_
  refine st (zSeq_reg) ?_
  refine st (zP_v (vLenL_sl rfl)) ?_
  refine st (zP_v (vInt_eq fGtr_ok rfl rfl (fGtr' (by omega)))) ?_
  refine st (zCond_f rfl) ?_
  refine st (zSkip_app) ?_
  refine st (zSeq_reg) ?_
  refine st (sP_val (a := Acc.none) rfl) ?_
  refine qV_new hH (ev_allocQ rfl) (fun _ => rfl) fun n1 Hn1 hH => ?_
  refine qN_put hH 0 rfl rfl rfl rfl ⟨_, rfl, rfl⟩ rfl rfl rfl fun H2 hH => ?_
  refine st (zSeq_reg) ?_
  refine qV_new hH (ev_allocQ rfl) (fun _ => rfl) fun n3 Hn3 hH => ?_
  refine st (zSeq_app) ?_
  refine st (zSeq_reg) ?_
  refine zV_q (vMv_q rfl) rfl ?_
  refine st (zBlock_app) ?_
  refine loop3a ks ns fk fn _ _ hks hns hl _ _ _ _ _ (fun L v1 v4 v5 H fr hf hH => ?_) ks.length 0 (k + 5000) _ _ _ _ _ (by omega) (by omega) (.inl ⟨rfl, rfl⟩) hH
  have c6' := fun (f1 f2 : Bool) => c6m (k := k + 4937) [] .nil (ks.map tAt) (numsI ns ks.length) f1 f2 (by omega) (by omega) (by omega) e3 hx hg
  rw [hw] at c6'
  rcases hf with ⟨h0, rfl⟩ | ⟨h0, nS, nV, rfl⟩
  · have hks0 : ks = [] := List.eq_nil_of_length_eq_zero h0
    have c6e : CY (k + 4937 + 63) [] (.func 6) [sMap, .agg [.int .u64 0, .int .u64 0, .sl 0 [] true, .sl 0 [] true, .sl 0 [] true]] .nil = some (.tup [mapA (wantI (mostI ks ns ks.length) 8).1 (wantI (mostI ks ns ks.length) 8).2, .nilIface], .nil, ⟨[], [], false⟩) := by
      have := c6' true true
      subst hks0
      exact this
    refine st (ifZ_pos rfl) ?_
    refine st (zSeq_app) ?_
    refine qd5 hH fun n1 Hn1 hH => ?_
    refine st (cP_idle rfl (c7a (k := k + 4990) _ _) rfl) ?_
    refine qDP_new hH 3 rfl rfl rfl spOk_nil rfl fun H2 hH => ?_
    refine qD_callN rfl (call_fzN (c7b (k := k + 4990) [] .nil) rfl (fun _ => rfl) (fzL_cons rfl (fzL_cons (fzG_ownX (has_get hH 3 rfl) rfl rfl) rfl)) rfl) rfl (by repeat' first | exact spOk_nil | refine spOk_bef rfl ?_ | (refine spOk_apart (mtA rfl rfl ?_) ?_; focus (have q := has_nd hH; simp at q; simp [Acc.add, Acc.none, Acc.read] <;> omega))) (has_mk hH 3 rfl rfl rfl fun _ hH => has_mkN hH rfl) fun H9 hH => ?_
    refine st (zLD_v (wL_loc rfl (has_get hH 6 rfl) rfl rfl) rfl (spOk_apart rfl (spOk_apart (mtQ hH [3, 3, 3] [] [] [6] rfl rfl rfl rfl rfl rfl rfl) spOk_nil))) ?_
    refine st (cP_idle rfl (call_any c6e rfl (fun _ => rfl)) rfl) ?_
    refine st (zPD_v (vExt_eq rfl rfl)) ?_
    refine st (zPD_v (vExt_eq rfl rfl)) ?_
    refine qDV_new hH 0 rfl (ev_allocQ rfl) rfl (spOk_apart (mtQ hH [] [6] [0, 0, 0] [] rfl rfl rfl rfl rfl rfl rfl) (spOk_apart (mtQ hH [] [3, 3] [0, 0, 0] [] rfl rfl rfl rfl rfl rfl rfl) (spOk_apart (mtQ hH [3, 3, 3] [] [0, 0, 0] [] rfl rfl rfl rfl rfl rfl rfl) spOk_nil))) rfl rfl fun H3 hH => ?_
    refine qDN_put hH 0 rfl rfl rfl rfl ⟨_, rfl, rfl⟩ rfl rfl rfl (spOk_bef rfl (spOk_bef rfl (spOk_bef rfl (spOk_bef rfl spOk_nil)))) fun H4 hH => ?_
    refine zVD_q (vMv_q rfl) rfl ?_
    refine st (zSeq_reg) ?_
    refine st (sP_val (a := Acc.none) rfl) ?_
    refine qV_new hH (ev_allocQ rfl) (fun _ => rfl) fun n5 Hn5 hH => ?_
    refine qN_put hH 0 rfl rfl rfl rfl ⟨_, rfl, rfl⟩ rfl rfl rfl fun H6 hH => ?_
    refine st (zSeq_app) ?_
    refine st (zSeq_reg) ?_
    refine zV_q (vMv_q rfl) rfl ?_
    refine st (zBlock_app) ?_
    refine loop3b (mostI ks ns ks.length) hm8 _ _ [_] _ _ _ _ _ _ _ _ _ (fun L v7 H fr hf hH => ?_) 8 0 (k + 5000) _ _ _ (by omega) (by omega) (.inl ⟨rfl, rfl⟩) (has_pick hH [6, 0, 1] rfl (by decide))
    rcases hf with ⟨g0, rfl⟩ | ⟨g0, mS, mV, rfl⟩
    · have g1 := List.eq_nil_of_length_eq_zero (w1.symm.trans (congrArg List.length g0))
      rw [g0, g1] at hH
      refine st (ifZ_pos rfl) ?_
      refine st (zSeq_reg) ?_
      refine st (zP_v (vInt_any rfl rfl (fun _ _ => rfl) rfl)) ?_
      refine st (zG_hit rfl) ?_
      refine st (zL_v (wL_loc rfl (has_get hH 2 rfl) rfl rfl)) ?_
      refine st (zG_hit rfl) ?_
      refine st (zL_v (wL_loc rfl (has_get hH 1 rfl) rfl rfl)) ?_
      refine st (zG_hit rfl) ?_
      refine st (cP_call rfl (c8m (k := k + 3897) _ _ [] [] true true true true (by simp) (by simp))) ?_
      refine st (zP_v (vPick_t rfl)) ?_
      refine zV_q (vMv_q rfl) rfl ?_
      refine st (zRet_app) ?_
      exact ends_tmp rfl
    · refine st (ifZ_pos rfl) ?_
      refine st (zSeq_reg) ?_
      refine st (zP_v (vInt_any rfl rfl (fun _ _ => rfl) rfl)) ?_
      refine st (zG_hit rfl) ?_
      refine st (zL_v (wL_loc rfl (has_get hH 4 rfl) rfl rfl)) ?_
      refine st (zG_hit rfl) ?_
      refine st (zL_v (wL_loc rfl (has_get hH 1 rfl) rfl rfl)) ?_
      refine st (zG_hit rfl) ?_
      refine st (cP_call rfl (call_fzF (c8m (k := k + 3897) [] .nil (wantI (mostI ks ns ks.length) 8).1 (wantI (mostI ks ns ks.length) 8).2 ((wantI (mostI ks ns ks.length) 8).1.length == 0) ((wantI (mostI ks ns ks.length) 8).2.length == 0) false false (by omega) (by omega)) rfl (fun _ => rfl) (fzL_cons rfl (fzL_cons (fz_mapv (k := 57) (has_get hH 2 rfl) (has_get hH 3 rfl) rfl w1.symm) rfl)) rfl)) ?_
      refine st (zP_v (vPick_t rfl)) ?_
      refine zV_q (vMv_q rfl) rfl ?_
      refine st (zRet_app) ?_
      exact ends_tmp rfl
  · rw [List.take_length] at hH
    refine st (ifZ_pos rfl) ?_
    refine st (zSeq_app) ?_
    refine qd5 hH fun n1 Hn1 hH => ?_
    refine st (cP_idle rfl (c7a (k := k + 4990) _ _) rfl) ?_
    refine qDP_new hH 3 rfl rfl rfl spOk_nil rfl fun H2 hH => ?_
    refine qD_callN rfl (call_fzN (c7b (k := k + 4990) [] .nil) rfl (fun _ => rfl) (fzL_cons rfl (fzL_cons (fzG_ownX (has_get hH 3 rfl) rfl rfl) rfl)) rfl) rfl (by repeat' first | exact spOk_nil | refine spOk_bef rfl ?_ | (refine spOk_apart (mtA rfl rfl ?_) ?_; focus (have q := has_nd hH; simp at q; simp [Acc.add, Acc.none, Acc.read] <;> omega))) (has_mk hH 3 rfl rfl rfl fun _ hH => has_mkN hH rfl) fun H9 hH => ?_
    refine st (zLD_v (wL_loc rfl (has_get hH 6 rfl) rfl rfl) rfl (spOk_apart rfl (spOk_apart (mtQ hH [3, 3, 3] [] [] [6] rfl rfl rfl rfl rfl rfl rfl) spOk_nil))) ?_
    refine qD_callN rfl (call_fzN (c6' false false) rfl (fun _ => rfl) (fzL_cons rfl (fzL_cons (fz_mapv (k := 57) (has_get hH 7 rfl) (has_get hH 8 rfl) e1 e2) rfl)) rfl) rfl (by repeat' first | exact spOk_nil | refine spOk_bef rfl ?_ | (refine spOk_apart (mtA rfl rfl ?_) ?_; focus (have q := has_nd hH; simp at q; simp [Acc.add, Acc.none, Acc.read] <;> omega))) (has_mk hH 7 rfl rfl rfl fun _ hH => has_mk hH 8 rfl rfl rfl fun _ hH => has_mkN hH rfl) fun H9 hH => ?_
    refine st (zPD_v (vExt_eq rfl rfl)) ?_
    refine st (zPD_v (vExt_eq rfl rfl)) ?_
    refine qDV_new hH 0 rfl (ev_allocQ rfl) rfl (spOk_apart (mtQ hH [] [7, 8, 7, 8] [0, 0, 0] [] rfl rfl rfl rfl rfl rfl rfl) (spOk_apart (mtQ hH [] [6] [0, 0, 0] [] rfl rfl rfl rfl rfl rfl rfl) (spOk_apart (mtQ hH [] [3, 3] [0, 0, 0] [] rfl rfl rfl rfl rfl rfl rfl) (spOk_apart (mtQ hH [3, 3, 3] [] [0, 0, 0] [] rfl rfl rfl rfl rfl rfl rfl) spOk_nil)))) rfl rfl fun H3 hH => ?_
    refine qDN_put hH 0 rfl rfl rfl rfl ⟨_, rfl, rfl⟩ rfl rfl rfl (spOk_bef rfl (spOk_bef rfl (spOk_bef rfl (spOk_bef rfl (spOk_bef rfl spOk_nil))))) fun H4 hH => ?_
    refine zVD_q (vMv_q rfl) rfl ?_
    refine st (zSeq_reg) ?_
    refine st (sP_val (a := Acc.none) rfl) ?_
    refine qV_new hH (ev_allocQ rfl) (fun _ => rfl) fun n5 Hn5 hH => ?_
    refine qN_put hH 0 rfl rfl rfl rfl ⟨_, rfl, rfl⟩ rfl rfl rfl fun H6 hH => ?_
    refine st (zSeq_app) ?_
    refine st (zSeq_reg) ?_
    refine zV_q (vMv_q rfl) rfl ?_
    refine st (zBlock_app) ?_
    refine loop3b (mostI ks ns ks.length) hm8 _ _ [_] _ _ _ _ _ _ _ _ _ (fun L v7 H fr hf hH => ?_) 8 0 (k + 5000) _ _ _ (by omega) (by omega) (.inl ⟨rfl, rfl⟩) (has_pick hH [6, 0, 1] rfl (by decide))
    rcases hf with ⟨g0, rfl⟩ | ⟨g0, mS, mV, rfl⟩
    · have g1 := List.eq_nil_of_length_eq_zero (w1.symm.trans (congrArg List.length g0))
      rw [g0, g1] at hH
      refine st (ifZ_pos rfl) ?_
      refine st (zSeq_reg) ?_
      refine st (zP_v (vInt_any rfl rfl (fun _ _ => rfl) rfl)) ?_
      refine st (zG_hit rfl) ?_
      refine st (zL_v (wL_loc rfl (has_get hH 2 rfl) rfl rfl)) ?_
      refine st (zG_hit rfl) ?_
      refine st (zL_v (wL_loc rfl (has_get hH 1 rfl) rfl rfl)) ?_
      refine st (zG_hit rfl) ?_
      refine st (cP_call rfl (c8m (k := k + 3897) _ _ [] [] true true true true (by simp) (by simp))) ?_
      refine st (zP_v (vPick_t rfl)) ?_
      refine zV_q (vMv_q rfl) rfl ?_
      refine st (zRet_app) ?_
      exact ends_tmp rfl
    · refine st (ifZ_pos rfl) ?_
      refine st (zSeq_reg) ?_
      refine st (zP_v (vInt_any rfl rfl (fun _ _ => rfl) rfl)) ?_
      refine st (zG_hit rfl) ?_
      refine st (zL_v (wL_loc rfl (has_get hH 4 rfl) rfl rfl)) ?_
      refine st (zG_hit rfl) ?_
      refine st (zL_v (wL_loc rfl (has_get hH 1 rfl) rfl rfl)) ?_
      refine st (zG_hit rfl) ?_
      refine st (cP_call rfl (call_fzF (c8m (k := k + 3897) [] .nil (wantI (mostI ks ns ks.length) 8).1 (wantI (mostI ks ns ks.length) 8).2 ((wantI (mostI ks ns ks.length) 8).1.length == 0) ((wantI (mostI ks ns ks.length) 8).2.length == 0) false false (by omega) (by omega)) rfl (fun _ => rfl) (fzL_cons rfl (fzL_cons (fz_mapv (k := 57) (has_get hH 2 rfl) (has_get hH 3 rfl) rfl w1.symm) rfl)) rfl)) ?_
      refine st (zP_v (vPick_t rfl)) ?_
      refine zV_q (vMv_q rfl) rfl ?_
      refine st (zRet_app) ?_
      exact ends_tmp rfl
end Go.Proofs.PxM6
