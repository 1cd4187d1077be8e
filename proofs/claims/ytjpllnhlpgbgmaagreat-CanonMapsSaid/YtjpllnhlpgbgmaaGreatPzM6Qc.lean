/- Canon: maps are right (walks by zauto). -/
import Derived.Test.YtjpllnhlpgbgmaaGreatPzM6Qb
set_option linter.unusedVariables false
set_option linter.unusedSimpArgs false
set_option maxRecDepth 100000
namespace Go.Proofs.PxM6
open Go Go.Px Go.Proofs
noncomputable def body53 (call : CallTT) : CZ := xbody53 E1 call
theorem loop53 {P : Ans → Prop} {kn : KB} {kx : Nat → KB} {kr : KB} {k : Nat} {Y : YE} (s : Txt) (f : Bool) (g : Nat) (hp : ∀ us, Plain E1 (.func g) us) (hs : s.length ≤ 1000000) (H : Heap) (hc : ∀ t ∈ s, CY k Y (.func g) [.str t] (rep H) = some (.bool false, rep H, ⟨[], [], false⟩)) (v5 : AV) (hk : ∀ L v1 v4, P (kx 0 L [.sl s.length (txtC s) f, v1, iV s.length, .clo g [], v4, v5] (rep H))) :
  ∀ (d i q : Nat) (L : List AV) (v4 : AV), i + d = s.length → d < q → P (zLoop q (body53 (CY k Y)) kn kx kr L [.sl s.length (txtC s) f, iV i, iV s.length, .clo g [], v4, v5] (rep H))
 | 0, i, q, L, v4, hi, hq => by
  obtain ⟨q, rfl⟩ : ∃ q', q = q' + 1 := ⟨q - 1, by omega⟩
  refine st zLoop_one ?_
  unfold body53 xbody53
  refine zpR <| st (zP_v (vInt_eq fLss_ok rfl rfl (fLss' (by omega)))) <| zpA <| zpf rfl <| st zExit_app ?_
  exact hk _ _ _
 | d + 1, i, q, L, v4, hi, hq => by
  obtain ⟨q, rfl⟩ : ∃ q', q = q' + 1 := ⟨q - 1, by omega⟩
  obtain ⟨a, ha⟩ := get_some (l := s) (i := i) (by omega)
  have hl := txtC_len s
  refine st zLoop_one ?_
  unfold body53 xbody53
  refine zpR <| st (zP_v (vInt_eq fLss_ok rfl rfl (tLss (by omega)))) <| zpA <| zpt rfl <| zpK <| zpA <| st zBlock_app <| zpR <| st (zV_v (vMv_q rfl)) <| zpR <| st (zP_v (vIndexAddr_sl rfl rfl (by omega) (by omega))) ?_
  rw [str_at ha]
  refine st (zL_v (wL_ref rfl rfl rfl)) <| st (sP_call (hc a (List.mem_of_getElem? ha)) (ev_callv rfl rfl rfl) (hp _)) <| zpf rfl <| zpK <| st zReg_eq <| st (zP_v (vInt_eq fAdd_ok rfl rfl (aAdd1 (by omega)))) <| st (zV_v (vMv_q rfl)) ?_
  exact loop53 s f g hp hs H hc v5 hk d (i + 1) q _ _ (by omega) (by omega)
theorem c53 {k : Nat} {Y : YE} (s : Txt) (f : Bool) (g : Nat) (hp : ∀ us, Plain E1 (.func g) us) (hs : s.length ≤ 1000000) (hk2 : s.length < k) (H : Heap) (hc : ∀ t ∈ s, CY k Y (.func g) [.str t] (rep H) = some (.bool false, rep H, ⟨[], [], false⟩)) :
  ∃ r H' ac, CY (k + 1) Y (.func 53) [.sl s.length (txtC s) f, .clo g []] (rep H) = some (r, rep H', ac) ∧ (r = .int .i64 (-1) ∧ H' = H) := by
 refine raw_go (E := E1) (GE := GE E1) (LZ := LZ E1) (f := 53) (zf := G53 E1) (args := [.sl s.length (txtC s) f, .clo g []]) (Q := fun r H' => r = .int .i64 (-1) ∧ H' = H) rfl rfl (fun _ => rfl) ?_
 unfold G53
 dsimp only
 refine zpR <| st (zV_v (vMv_q rfl)) <| zpA <| zpR <| st (zV_v (vLenL_sl rfl)) <| st (zV_v (vMv_q rfl)) <| st zBlock_app ?_
 refine loop53 s f g hp hs H hc _ (fun L v1 v4 => ?_) s.length 0 k _ _ (by omega) hk2
 refine st (ifZ_pos rfl) <| zpR <| st (zV_v (vMv_q rfl)) <| st zRet_app ?_
 exact ⟨_, _, rfl, rfl, rfl⟩
theorem c29 {k : Nat} {Y : YE} (s : Txt) (f : Bool) (g : Nat) (hp : ∀ us, Plain E1 (.func g) us) (hs : s.length ≤ 1000000) (hk2 : s.length < k) (H : Heap) (hc : ∀ t ∈ s, CY k Y (.func g) [.str t] (rep H) = some (.bool false, rep H, ⟨[], [], false⟩)) :
  ∃ r H' ac, CY (k + 2) Y (.func 29) [.sl s.length (txtC s) f, .clo g []] (rep H) = some (r, rep H', ac) ∧ (r = .bool false ∧ H' = H) := by
 refine raw_go (E := E1) (GE := GE E1) (LZ := LZ E1) (f := 29) (zf := G29 E1) (args := [.sl s.length (txtC s) f, .clo g []]) (Q := fun r H' => r = .bool false ∧ H' = H) rfl rfl (fun _ => rfl) ?_
 unfold G29
 dsimp only
 obtain ⟨r, H', ac, h1, rfl, rfl⟩ := c53 (Y := Y) s f g hp hs hk2 H hc
 refine zpR <| st (zV_v (vMv_q rfl)) <| zpR <| st (cP_call rfl h1) <| st (zP_v (vInt_eq (fGen_ok (by simp) (by simp)) rfl rfl (fGeq' (by omega)))) <| st (zV_v (vMv_q rfl)) <| st zRet_app ?_
 exact ⟨_, _, rfl, rfl, rfl⟩
theorem c113 {k : Nat} (Y : YE) (T : TH) (t : List Nat) (h : t.length ≤ 16) : CY (k + 1) Y (.func 113) [.str t] T = some (.bool false, T, ⟨[], [], false⟩) := by
 refine call_go (zf := G113 E1) rfl rfl (fun _ => rfl) (fun _ => rfl) ?_
 unfold G113
 dsimp only
 refine zpR <| st (zV_v (vMv_q rfl)) <| zpR <| st (zP_v (vLenS_eq rfl)) <| st (zP_v (vInt_eq fGtr_ok rfl rfl (fGtr' (by omega)))) <| st (zV_v (vMv_q rfl)) <| st zRet_app ?_
 exact ends_fz rfl
theorem c30 {k : Nat} (Y : YE) (T : TH) (t : List Nat) (h : t.length ≤ 16) : CY (k + 1) Y (.func 30) [.str t] T = some (.bool false, T, ⟨[], [], false⟩) := by
 refine call_go (zf := G30 E1) rfl rfl (fun _ => rfl) (fun _ => rfl) ?_
 unfold G30
 dsimp only
 refine zpR <| st (zV_v (vMv_q rfl)) <| zpR <| st (zP_v (vLenS_eq rfl)) <| st (zP_v (vInt_eq fGtr_ok rfl rfl (fGtr' (by omega)))) <| st (zV_v (vMv_q rfl)) <| st zRet_app ?_
 exact ends_fz rfl
theorem c86 {k : Nat} (Y : YE) (T : TH) (s : Txt) (f : Bool) (hr : Rises s) (hs : s.length ≤ 40) (ht : ∀ t ∈ s, t.length ≤ 16) (hk : 100 ≤ k) : CY (k + 4) Y (.func 86) [.sl s.length (txtC s) f] T = some (.bool true, T, ⟨[], [], false⟩) := by
 refine call_go (zf := G86 E1) rfl rfl (fun _ => rfl) (fun _ => rfl) ?_
 unfold G86
 dsimp only
 obtain ⟨r, H', ac, h1, rfl, rfl⟩ := c29 (k := k + 1) (Y := []) s f 113 (fun _ => rfl) (by omega) (by omega) [] (fun t h => c113 _ _ t (ht t h))
 have hH : Has ([] : Heap) [] := has_nil
 refine zpR ?_
 refine zV_q (vMv_q rfl) rfl ?_
 refine zpR <| st (zP_v (vLenL_sl rfl)) <| st (zP_v (vInt_eq (fGen_ok (by simp) (by simp)) rfl rfl (tLeq (by omega)))) <| zph rfl <| st (zP_v (vMv_q rfl)) <| zph rfl <| st (cP_call rfl (c112 _ _ s _ hr (by omega) (by omega))) <| st (zP_v (vPick_t rfl)) <| zph rfl <| st (zP_v (vMv_q rfl)) <| zph rfl <| st (cP_call rfl h1) <| zph rfl <| st (zP_v (vNot_eq rfl)) <| st (zP_v (vPick_t rfl)) ?_
 refine zV_q (vMv_q rfl) rfl ?_
 refine st zRet_app ?_
 exact ends_tmp rfl
end Go.Proofs.PxM6
