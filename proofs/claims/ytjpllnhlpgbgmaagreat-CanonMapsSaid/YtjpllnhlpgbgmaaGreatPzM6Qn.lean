/- CanonMaps: its last loop (walks by zauto). -/
import Derived.Test.YtjpllnhlpgbgmaaGreatPzM6Qm
set_option linter.unusedVariables false
set_option linter.unusedSimpArgs false
set_option maxRecDepth 100000
set_option maxHeartbeats 8000000
namespace Go.Proofs.PxM6
open Go Go.Px Go.Proofs
/-- What the most numbers say: keys below k that have one. -/
def wantI (m : List Nat) : Nat → PM
  | 0 => ([], [])
  | k + 1 => if 0 < m.getD k 0 then ((wantI m k).1 ++ [[97 + k]], (wantI m k).2 ++ [m.getD k 0]) else wantI m k
theorem wantI_len (m : List Nat) : ∀ k, (wantI m k).1.length = (wantI m k).2.length ∧ (wantI m k).1.length ≤ k
  | 0 => ⟨rfl, Nat.le_refl _⟩
  | k + 1 => by
    obtain ⟨h1, h2⟩ := wantI_len m k
    unfold wantI
    split
    · simp [h1]; omega
    · exact ⟨h1, by omega⟩
def Fr3b (m : List Nat) (mc wc k : Nat) (X : HL) (fr : HL) : Prop :=
  ((wantI m k).1 = [] ∧ fr = (mc, .row 30 (mC m) false) :: (wc, .row 29 [.int .u64 0, .int .u64 0, .sl 0 [] true, .sl 0 [] true, .sl 0 [] true] false) :: X) ∨
  ((wantI m k).1 ≠ [] ∧ ∃ nS nV, fr = (mc, .row 30 (mC m) false) :: (wc, .row 29 [.int .u64 0, .int .u64 0, .own nS 0 (wantI m k).1.length 1, .sl 0 [] true, .own nV 0 (wantI m k).1.length 5] false) :: (nS, .row 9 (txtC (wantI m k).1) false) :: (nV, .row 29 (numC (wantI m k).2) false) :: X)
noncomputable def body3b (call : CallTT) : CZ := (zSeq (zSeq (zReg fun k => (zP (vInt E1 fLss .lss 3 false true (.v 7) (.k (.int .i64 8)))) k)
  (zCond (.l 0) zSkip (zExit 2)))
  (zSeq (zBlock 3 (zSeq (zReg fun k => (zStep E1 call ⟨.indexAddr 30 (.v 6) (.v 7), .push, none, true, 1, none⟩) ((zL 1 false (.l 0)) ((zP (vInt E1 fGtr .gtr 24 false true (.l 0) (.k (.int .u64 0)))) k)))
  (zCond (.l 0) (zDreg 5 fun n0 k => (zPD (vFieldAddr 2 (.v 8))) ((zLD B2 1 1 false (.l 0)) ((zPD (vInt E1 fAdd .add 3 true false (.k (.int .i64 97)) (.v 7))) ((zPD (vConv .u8 (.l 0))) ((zStepD E1 call B2 n0 ⟨.buildSlice 22 1 [(0, (.l 0))], .push, none, false, 5, (some 0)⟩) ((zStepD E1 call B2 n0 ⟨.conv 22 9 (.l 0), .push, none, false, 6, none⟩) ((zStepD E1 call B2 n0 ⟨.buildSlice 25 1 [(0, (.l 0))], .push, none, false, 7, (some 1)⟩) ((zStepD E1 call B2 n0 ⟨.append 25 25 (.l 5) (.l 0), .push, none, false, 8, (some 2)⟩) ((zPD (vFieldAddr 4 (.v 8))) ((zLD B2 10 1 false (.l 0)) ((zStepD E1 call B2 n0 ⟨.indexAddr 30 (.v 6) (.v 7), .push, none, true, 12, none⟩) ((zLD B2 13 1 false (.l 0)) ((zStepD E1 call B2 n0 ⟨.build 29 [(0, (.l 0))], .push, none, false, 14, none⟩) ((zStepD E1 call B2 n0 ⟨.buildSlice 27 1 [(0, (.l 0))], .push, none, false, 15, (some 3)⟩) ((zStepD E1 call B2 n0 ⟨.append 27 27 (.l 4) (.l 0), .push, none, false, 16, (some 4)⟩) ((zPD (vFieldAddr 2 (.v 8))) ((zStepD E1 call B2 n0 ⟨.store 25 (.l 0) (.l 8), .none, none, false, 18, none⟩) ((zPD (vFieldAddr 4 (.v 8))) ((zStepD E1 call B2 n0 ⟨.store 27 (.l 0) (.l 2), .none, none, false, 20, none⟩) k))))))))))))))))))) zSkip)))
  (zReg fun k => (zP (vMv (.v 7))) ((zP (vInt E1 fAdd .add 3 false true (.l 0) (.k (.int .i64 1)))) ((zV 7 (vMv (.l 0))) k)))))
set_option maxHeartbeats 4000000 in
theorem loop3b {P : Ans → Prop} {kn : KB} {kx : Nat → KB} {kr : KB} {call : CallTT} (m : List Nat) (hm : m.length = 8) (mc wc : Nat) (X : HL) (v0 v1 v2 v3 v4 v5 v9 v10 v11 : AV)
    (hk : ∀ L v7 H fr, Fr3b m mc wc 8 X fr → Has H fr → P (kx 2 L [v0, v1, v2, v3, v4, v5, .loc mc 0, v7, .loc wc 0, v9, v10, v11] (rep H))) :
    ∀ (d k q : Nat) (L : List AV) (H : Heap) (fr : HL), k + d = 8 → d < q → Fr3b m mc wc k X fr → Has H fr →
      P (zLoop q (body3b call) kn kx kr L [v0, v1, v2, v3, v4, v5, .loc mc 0, iV k, .loc wc 0, v9, v10, v11] (rep H))
  | 0, k, q, L, H, fr, hi, hq, hf, hH => by
    obtain ⟨q, rfl⟩ : ∃ q', q = q' + 1 := ⟨q - 1, by omega⟩
    obtain rfl : k = 8 := by omega
    refine st zLoop_one ?_
    unfold body3b
    refine st (zSeq_app) ?_
    refine st (zSeq_reg) ?_
    refine st (zP_v (vInt_eq fLss_ok rfl rfl (fLss' (by omega)))) ?_
    refine st (zCond_f rfl) ?_
    refine st (zExit_app) ?_
    exact hk _ _ _ _ hf hH
  | d + 1, k, q, L, H, fr, hi, hq, hf, hH => by
    obtain ⟨q, rfl⟩ : ∃ q', q = q' + 1 := ⟨q - 1, by omega⟩
    refine st zLoop_one ?_
    unfold body3b
    have hk8 : k < 8 := by omega
    have hga : m[k]? = some (m.getD k 0) := by simp [List.getD, hm, hk8]
    obtain ⟨l1, l2⟩ := wantI_len m k
    have e1 := txtC_len (wantI m k).1
    have e2 := numC_len (wantI m k).2
    by_cases hp : 0 < m.getD k 0
    · have hw : wantI m (k + 1) = ((wantI m k).1 ++ [[97 + k]], (wantI m k).2 ++ [m.getD k 0]) := by rw [wantI, if_pos hp]
      rcases hf with ⟨h0, rfl⟩ | ⟨h0, nS, nV, rfl⟩
      · refine st (zSeq_app) ?_
        refine st (zSeq_reg) ?_
        refine st (zP_v (vInt_eq fLss_ok rfl rfl (tLss (by omega)))) ?_
        refine st (zCond_t rfl) ?_
        refine st (zSkip_app) ?_
        refine st (zSeq_app) ?_
        refine st (zBlock_app) ?_
        refine st (zSeq_reg) ?_
        refine st (sP_val (ia30 hk8 rfl rfl)) ?_
        refine st (zL_v (wLoad_loc rfl (has_get hH 0 rfl) (by simp [mC, hm]; omega) (mC_at hga))) ?_
        refine st (zP_v (vInt_eq fGtr_ok rfl rfl (tGtr (by omega)))) ?_
        refine st (zCond_t rfl) ?_
        refine qd5 hH fun n1 Hn1 hH => ?_
        refine st (zPD_v (vFieldAddr_loc rfl)) ?_
        refine st (zLD_v (wL_loc rfl (has_get hH 6 rfl) rfl rfl) rfl spOk_nil) ?_
        refine st (zPD_v (vInt_eq fAdd_ok rfl rfl (aAddZ (by omega)))) ?_
        refine st (zPD_v (vConvX rfl (u8_wrap (y := 97 + k) (by omega)))) ?_
        refine qDP_new hH 4 rfl rfl rfl (spOk_apart (mtQ hH [] [6] [4, 4, 4] [] rfl rfl rfl rfl rfl rfl rfl) spOk_nil) rfl fun H2 hH => ?_
        refine st (dP_valR (conv22 (y := 97 + k) (by omega) rfl (has_get hH 4 rfl)) rfl (by repeat' first | exact spOk_nil | refine spOk_bef rfl ?_ | refine spOk_apart rfl ?_)) ?_
        refine qDP_new hH 3 rfl rfl rfl (spOk_bef rfl (spOk_bef rfl (spOk_apart (mtQ hH [] [6] [3, 3, 3] [] rfl rfl rfl rfl rfl rfl rfl) spOk_nil))) rfl fun H3 hH => ?_
        refine qDP_new hH 2 rfl (append_firstG row9 rfl rfl (has_get hH 3 rfl) rfl (by decide) (by omega)) rfl (spOk_bef rfl (spOk_bef rfl (spOk_bef rfl (spOk_bef rfl spOk_nil)))) rfl fun H4 hH => ?_
        refine st (zPD_v (vFieldAddr_loc rfl)) ?_
        refine st (zLD_v (wL_loc rfl (has_get hH 6 rfl) rfl rfl) rfl (spOk_apart (mtQ hH [2, 2, 2] [3] [] [6] rfl rfl rfl rfl rfl rfl rfl) (spOk_apart (mtQ hH [3, 3, 3] [] [] [6] rfl rfl rfl rfl rfl rfl rfl) (spOk_apart rfl (spOk_apart (mtQ hH [4, 4, 4] [] [] [6] rfl rfl rfl rfl rfl rfl rfl) (spOk_apart rfl spOk_nil)))))) ?_
        refine st (dP_val (ia30 hk8 rfl rfl) rfl) ?_
        refine st (zLD_v (wLoad_loc rfl (has_get hH 5 rfl) (by simp [mC, hm]; omega) (mC_at hga)) rfl (spOk_apart rfl (spOk_apart (mtQ hH [2, 2, 2] [3] [] [5] rfl rfl rfl rfl rfl rfl rfl) (spOk_apart (mtQ hH [3, 3, 3] [] [] [5] rfl rfl rfl rfl rfl rfl rfl) (spOk_apart rfl (spOk_apart (mtQ hH [4, 4, 4] [] [] [5] rfl rfl rfl rfl rfl rfl rfl) (spOk_apart rfl spOk_nil))))))) ?_
        refine st (dP_val (a := Acc.none) rfl rfl) ?_
        refine qDP_new hH 1 rfl rfl rfl (spOk_bef rfl (spOk_apart (mtQ hH [] [6] [1, 1, 1] [] rfl rfl rfl rfl rfl rfl rfl) (spOk_apart (mtQ hH [2, 2, 2] [3] [1, 1, 1] [] rfl rfl rfl rfl rfl rfl rfl) (spOk_apart (mtQ hH [3, 3, 3] [] [1, 1, 1] [] rfl rfl rfl rfl rfl rfl rfl) (spOk_apart (mtQ hH [] [4] [1, 1, 1] [] rfl rfl rfl rfl rfl rfl rfl) (spOk_apart (mtQ hH [4, 4, 4] [] [1, 1, 1] [] rfl rfl rfl rfl rfl rfl rfl) (spOk_apart (mtQ hH [] [6] [1, 1, 1] [] rfl rfl rfl rfl rfl rfl rfl) spOk_nil))))))) rfl fun H5 hH => ?_
        refine qDP_new hH 0 rfl (append_firstG row29 rfl rfl (has_get hH 1 rfl) rfl (by decide) (by omega)) rfl (spOk_bef rfl (spOk_bef rfl (spOk_bef rfl (spOk_bef rfl (spOk_bef rfl (spOk_bef rfl (spOk_bef rfl (spOk_bef rfl spOk_nil)))))))) rfl fun H6 hH => ?_
        refine st (zPD_v (vFieldAddr_loc rfl)) ?_
        refine qDN_put hH 6 rfl rfl rfl rfl ⟨_, rfl, rfl⟩ rfl rfl rfl (spOk_bef rfl (spOk_bef rfl (spOk_bef rfl (spOk_bef rfl (spOk_bef rfl (spOk_bef rfl (spOk_bef rfl (spOk_bef rfl (spOk_bef rfl spOk_nil))))))))) fun H7 hH => ?_
        refine st (zPD_v (vFieldAddr_loc rfl)) ?_
        refine qDN_put hH 6 rfl rfl rfl rfl ⟨_, rfl, rfl⟩ rfl rfl rfl (spOk_bef rfl (spOk_bef rfl (spOk_bef rfl (spOk_bef rfl (spOk_bef rfl (spOk_bef rfl (spOk_bef rfl (spOk_bef rfl (spOk_bef rfl (spOk_bef rfl spOk_nil)))))))))) fun H8 hH => ?_
        refine st (zReg_eq) ?_
        refine st (zP_v (vMv_q rfl)) ?_
        refine st (zP_v (vInt_eq fAdd_ok rfl rfl (aAdd1 (by omega)))) ?_
        refine zV_q (vMv_q rfl) rfl ?_
        (have hH2 := has_pickT hH [5, 6, 2, 0] 7 rfl rfl rfl (by decide) rfl; exact loop3b m hm mc wc X v0 v1 v2 v3 v4 v5 v9 v10 v11 hk d (k + 1) q _ _ _ (by omega) (by omega) (by rw [Fr3b, hw]; exact .inr ⟨by simp, _, _, by rw [txtC_app1, numC_app1, List.length_append]; have h9 := List.eq_nil_of_length_eq_zero (l1.symm.trans (congrArg List.length h0)); rw [h0, h9]; rfl⟩) hH2)
      · refine st (zSeq_app) ?_
        refine st (zSeq_reg) ?_
        refine st (zP_v (vInt_eq fLss_ok rfl rfl (tLss (by omega)))) ?_
        refine st (zCond_t rfl) ?_
        refine st (zSkip_app) ?_
        refine st (zSeq_app) ?_
        refine st (zBlock_app) ?_
        refine st (zSeq_reg) ?_
        refine st (sP_val (ia30 hk8 rfl rfl)) ?_
        refine st (zL_v (wLoad_loc rfl (has_get hH 0 rfl) (by simp [mC, hm]; omega) (mC_at hga))) ?_
        refine st (zP_v (vInt_eq fGtr_ok rfl rfl (tGtr (by omega)))) ?_
        refine st (zCond_t rfl) ?_
        refine qd5 hH fun n1 Hn1 hH => ?_
        refine st (zPD_v (vFieldAddr_loc rfl)) ?_
        refine st (zLD_v (wL_loc rfl (has_get hH 6 rfl) rfl rfl) rfl spOk_nil) ?_
        refine st (zPD_v (vInt_eq fAdd_ok rfl rfl (aAddZ (by omega)))) ?_
        refine st (zPD_v (vConvX rfl (u8_wrap (y := 97 + k) (by omega)))) ?_
        refine qDP_new hH 4 rfl rfl rfl (spOk_apart (mtQ hH [] [6] [4, 4, 4] [] rfl rfl rfl rfl rfl rfl rfl) spOk_nil) rfl fun H2 hH => ?_
        refine st (dP_valR (conv22 (y := 97 + k) (by omega) rfl (has_get hH 4 rfl)) rfl (by repeat' first | exact spOk_nil | refine spOk_bef rfl ?_ | refine spOk_apart rfl ?_)) ?_
        refine qDP_new hH 3 rfl rfl rfl (spOk_bef rfl (spOk_bef rfl (spOk_apart (mtQ hH [] [6] [3, 3, 3] [] rfl rfl rfl rfl rfl rfl rfl) spOk_nil))) rfl fun H3 hH => ?_
        refine qDP_app hH 7 2 rfl (append_nextG row9 rfl (has_get hH 7 rfl) (by omega) rfl (has_get hH 3 rfl) rfl (by decide) (by omega)) rfl (spOk_bef rfl (spOk_bef rfl (spOk_bef rfl (spOk_bef rfl spOk_nil)))) rfl rfl rfl fun H4 hH => ?_
        refine st (zPD_v (vFieldAddr_loc rfl)) ?_
        refine st (zLD_v (wL_loc rfl (has_get hH 6 rfl) rfl rfl) rfl (spOk_apart (mtQ hH [2, 2, 2, 7] [3] [] [6] rfl rfl rfl rfl rfl rfl rfl) (spOk_apart (mtQ hH [3, 3, 3] [] [] [6] rfl rfl rfl rfl rfl rfl rfl) (spOk_apart rfl (spOk_apart (mtQ hH [4, 4, 4] [] [] [6] rfl rfl rfl rfl rfl rfl rfl) (spOk_apart rfl spOk_nil)))))) ?_
        refine st (dP_val (ia30 hk8 rfl rfl) rfl) ?_
        refine st (zLD_v (wLoad_loc rfl (has_get hH 5 rfl) (by simp [mC, hm]; omega) (mC_at hga)) rfl (spOk_apart rfl (spOk_apart (mtQ hH [2, 2, 2, 7] [3] [] [5] rfl rfl rfl rfl rfl rfl rfl) (spOk_apart (mtQ hH [3, 3, 3] [] [] [5] rfl rfl rfl rfl rfl rfl rfl) (spOk_apart rfl (spOk_apart (mtQ hH [4, 4, 4] [] [] [5] rfl rfl rfl rfl rfl rfl rfl) (spOk_apart rfl spOk_nil))))))) ?_
        refine st (dP_val (a := Acc.none) rfl rfl) ?_
        refine qDP_new hH 1 rfl rfl rfl (spOk_bef rfl (spOk_apart (mtQ hH [] [6] [1, 1, 1] [] rfl rfl rfl rfl rfl rfl rfl) (spOk_apart (mtQ hH [2, 2, 2, 7] [3] [1, 1, 1] [] rfl rfl rfl rfl rfl rfl rfl) (spOk_apart (mtQ hH [3, 3, 3] [] [1, 1, 1] [] rfl rfl rfl rfl rfl rfl rfl) (spOk_apart (mtQ hH [] [4] [1, 1, 1] [] rfl rfl rfl rfl rfl rfl rfl) (spOk_apart (mtQ hH [4, 4, 4] [] [1, 1, 1] [] rfl rfl rfl rfl rfl rfl rfl) (spOk_apart (mtQ hH [] [6] [1, 1, 1] [] rfl rfl rfl rfl rfl rfl rfl) spOk_nil))))))) rfl fun H5 hH => ?_
        refine qDP_app hH 8 0 rfl (append_nextG row29 rfl (has_get hH 8 rfl) (by omega) rfl (has_get hH 1 rfl) rfl (by decide) (by omega)) rfl (spOk_bef rfl (spOk_bef rfl (spOk_bef rfl (spOk_bef rfl (spOk_bef rfl (spOk_bef rfl (spOk_bef rfl (spOk_bef rfl spOk_nil)))))))) rfl rfl rfl fun H6 hH => ?_
        refine st (zPD_v (vFieldAddr_loc rfl)) ?_
        refine qDN_put hH 6 rfl rfl rfl rfl ⟨_, rfl, rfl⟩ rfl rfl rfl (spOk_bef rfl (spOk_bef rfl (spOk_bef rfl (spOk_bef rfl (spOk_bef rfl (spOk_bef rfl (spOk_bef rfl (spOk_bef rfl (spOk_bef rfl spOk_nil))))))))) fun H7 hH => ?_
        refine st (zPD_v (vFieldAddr_loc rfl)) ?_
        refine qDN_put hH 6 rfl rfl rfl rfl ⟨_, rfl, rfl⟩ rfl rfl rfl (spOk_bef rfl (spOk_bef rfl (spOk_bef rfl (spOk_bef rfl (spOk_bef rfl (spOk_bef rfl (spOk_bef rfl (spOk_bef rfl (spOk_bef rfl (spOk_bef rfl spOk_nil)))))))))) fun H8 hH => ?_
        refine st (zReg_eq) ?_
        refine st (zP_v (vMv_q rfl)) ?_
        refine st (zP_v (vInt_eq fAdd_ok rfl rfl (aAdd1 (by omega)))) ?_
        refine zV_q (vMv_q rfl) rfl ?_
        (have hH2 := has_pickT hH [5, 6, 2, 0] 9 rfl rfl rfl (by decide) rfl; exact loop3b m hm mc wc X v0 v1 v2 v3 v4 v5 v9 v10 v11 hk d (k + 1) q _ _ _ (by omega) (by omega) (by rw [Fr3b, hw]; exact .inr ⟨by simp, _, _, by rw [txtC_app1, numC_app1, List.length_append]; rfl⟩) hH2)
    · have hw : wantI m (k + 1) = wantI m k := by rw [wantI, if_neg hp]
      rcases hf with ⟨h0, rfl⟩ | ⟨h0, nS, nV, rfl⟩
      · refine st (zSeq_app) ?_
        refine st (zSeq_reg) ?_
        refine st (zP_v (vInt_eq fLss_ok rfl rfl (tLss (by omega)))) ?_
        refine st (zCond_t rfl) ?_
        refine st (zSkip_app) ?_
        refine st (zSeq_app) ?_
        refine st (zBlock_app) ?_
        refine st (zSeq_reg) ?_
        refine st (sP_val (ia30 hk8 rfl rfl)) ?_
        refine st (zL_v (wLoad_loc rfl (has_get hH 0 rfl) (by simp [mC, hm]; omega) (mC_at hga))) ?_
        refine st (zP_v (vInt_eq fGtr_ok rfl rfl (fGtr' (by omega)))) ?_
        refine st (zCond_f rfl) ?_
        refine st (zSkip_app) ?_
        refine st (zReg_eq) ?_
        refine st (zP_v (vMv_q rfl)) ?_
        refine st (zP_v (vInt_eq fAdd_ok rfl rfl (aAdd1 (by omega)))) ?_
        refine zV_q (vMv_q rfl) rfl ?_
        exact loop3b m hm mc wc X v0 v1 v2 v3 v4 v5 v9 v10 v11 hk d (k + 1) q _ _ _ (by omega) (by omega) (by rw [Fr3b, hw]; exact .inl ⟨h0, rfl⟩) hH
      · refine st (zSeq_app) ?_
        refine st (zSeq_reg) ?_
        refine st (zP_v (vInt_eq fLss_ok rfl rfl (tLss (by omega)))) ?_
        refine st (zCond_t rfl) ?_
        refine st (zSkip_app) ?_
        refine st (zSeq_app) ?_
        refine st (zBlock_app) ?_
        refine st (zSeq_reg) ?_
        refine st (sP_val (ia30 hk8 rfl rfl)) ?_
        refine st (zL_v (wLoad_loc rfl (has_get hH 0 rfl) (by simp [mC, hm]; omega) (mC_at hga))) ?_
        refine st (zP_v (vInt_eq fGtr_ok rfl rfl (fGtr' (by omega)))) ?_
        refine st (zCond_f rfl) ?_
        refine st (zSkip_app) ?_
        refine st (zReg_eq) ?_
        refine st (zP_v (vMv_q rfl)) ?_
        refine st (zP_v (vInt_eq fAdd_ok rfl rfl (aAdd1 (by omega)))) ?_
        refine zV_q (vMv_q rfl) rfl ?_
        exact loop3b m hm mc wc X v0 v1 v2 v3 v4 v5 v9 v10 v11 hk d (k + 1) q _ _ _ (by omega) (by omega) (by rw [Fr3b, hw]; exact .inr ⟨h0, _, _, rfl⟩) hH
end Go.Proofs.PxM6
