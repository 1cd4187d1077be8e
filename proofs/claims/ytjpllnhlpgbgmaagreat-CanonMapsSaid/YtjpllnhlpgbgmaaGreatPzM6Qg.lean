/- Canon: a map's entries put right, and joined (walks by zauto). -/
import Derived.Test.YtjpllnhlpgbgmaaGreatPzM6Qf
set_option linter.unusedVariables false
set_option linter.unusedSimpArgs false
set_option maxRecDepth 100000
namespace Go.Proofs.PxM6
open Go Go.Px Go.Proofs
abbrev PM := Txt × List Nat
noncomputable def body81 (call : CallTT) : CZ := xbody81 E1 call
def V81 (s : Txt) (v : List Nat) (f1 f2 : Bool) (l : Nat) (i v5 v6 v8 v9 : AV) : List AV := [.ref [.sl v.length (numC v) f2], i, iV v.length, .sl v.length (numC v) f2, .ref [.clo 60 [.ref sMapC, .ref (mapV s f1 v f2)]], v5, v6, .yield l, v8, v9]
theorem loop81 {P : Ans → Prop} {kn : KB} {kx : Nat → KB} {kr : KB} {k : Nat} {Y : YE} (l : Nat) (s : Txt) (v : List Nat) (f1 f2 : Bool) (hsv : s.length = v.length) (hl : s.length ≤ 1000) (J : List PM → HL → Prop) (D : HL → Prop)
  (hround : ∀ H x r fr, J (x :: r) fr → Has H fr → ∃ p H' ac fr', CY (k + 51) Y (.yield l) [mapA x.1 x.2, .nilIface] (rep H) = some (.bool p, rep H', ac) ∧ Has H' fr' ∧ (if p then J r fr' else D fr')) :
  ∀ (d i q : Nat) (L : List AV) (H : Heap) (fr : HL) (v5 v6 v8 v9 : AV), i + d = v.length → d < q → J ((List.zipWith oneM s v).drop i) fr → Has H fr → (∀ L i v5 v6 v8 v9 H fr, J [] fr → Has H fr → P (kx 0 L (V81 s v f1 f2 l i v5 v6 v8 v9) (rep H))) → (∀ L i v5 v6 v8 v9 H fr, D fr → Has H fr → P (kr L (V81 s v f1 f2 l i v5 v6 v8 v9) (rep H))) →
   P (zLoop q (body81 (CY (k + 51) Y)) kn kx kr L (V81 s v f1 f2 l (iV i) v5 v6 v8 v9) (rep H))
 | 0, i, q, L, H, fr, v5, v6, v8, v9, hi, hq, hj, hH, h1, h2 => by
  obtain ⟨q, rfl⟩ : ∃ q', q = q' + 1 := ⟨q - 1, by omega⟩
  refine st zLoop_one ?_
  unfold body81 xbody81
  rw [List.drop_eq_nil_of_le (by simp; omega)] at hj
  refine zpR <| st (zP_v (vInt_eq fLss_ok rfl rfl (fLss' (by omega)))) <| zpA <| zpf rfl <| st zExit_app ?_
  exact h1 _ _ _ _ _ _ _ _ hj hH
 | d + 1, i, q, L, H, fr, v5, v6, v8, v9, hi, hq, hj, hH, h1, h2 => by
  obtain ⟨q, rfl⟩ : ∃ q', q = q' + 1 := ⟨q - 1, by omega⟩
  obtain ⟨n, hn⟩ := get_some (l := v) (i := i) (by omega)
  obtain ⟨t, ht⟩ := get_some (l := s) (i := i) (by omega)
  have hll := numC_len v
  have hz : (List.zipWith oneM s v)[i]? = some (oneM t n) := by simp [List.getElem?_zipWith, hn, ht]
  rw [drop_at hz] at hj
  refine st zLoop_one ?_
  unfold body81 xbody81 V81
  refine zpR <| st (zP_v (vInt_eq fLss_ok rfl rfl (tLss (by omega)))) <| zpA <| zpt rfl <| zpK <| zpA <| st zBlock_app <| zpR <| st (zP_v (vIndexAddr_sl rfl rfl (by omega) (by omega))) ?_
  rw [num_at hn]
  refine st (zL_v (wL_ref rfl rfl rfl)) ?_
  refine qV_new hH (ev_allocQ rfl) (fun _ => rfl) fun n1 Hn1 hH => ?_
  refine zV_q (vMv_q rfl) rfl ?_
  refine qN_put hH 0 rfl rfl rfl rfl ⟨_, rfl, rfl⟩ rfl rfl rfl fun H2 hH => ?_
  refine zpR <| st (zL_v (wL_ref rfl rfl rfl)) <| st (zL_v (wL_loc rfl (has_get hH 0 rfl) rfl rfl)) <| st (sP_call (c60 _ _ s v f1 f2 i n t ht hl) (ev_callv rfl rfl rfl) rfl) <| st (zP_v (vExt_eq rfl rfl)) <| st (zP_v (vExt_eq rfl rfl)) ?_
  refine qV_new hH (ev_allocQ rfl) (fun _ => rfl) fun n3 Hn3 hH => ?_
  refine qN_put hH 0 rfl rfl rfl rfl ⟨_, rfl, rfl⟩ rfl rfl rfl fun H4 hH => ?_
  refine zV_q (vMv_q rfl) rfl ?_
  refine zpR <| st (zL_v (wL_loc rfl (has_get hH 0 rfl) rfl rfl)) ?_
  (obtain ⟨p, H9, ac, fr9, hc, hH, hp⟩ := hround _ (oneM t n) _ _ hj (by repeat' first | exact hH | apply has_tail); refine st (sP_call hc (ev_callv rfl rfl rfl) trivial) ?_)
  refine st (zP_v (vNot_eq rfl)) ?_
  refine two (b := !p) (fun b5 => ?_) (fun b5 => ?_)
  ·refine zGm_q (bAV b5) ?_
   refine zGm_q (bAV b5) ?_
   refine st (zP_v (vPick_t (bAV b5))) <| zpt rfl <| st zRet_app ?_
   exact h2 _ _ _ _ _ _ _ fr9 (by rwa [if_neg (by simp_all)] at hp) hH
  ·refine st (zG_hit (bAV b5)) <| st (zP_v (vMv_q rfl)) <| st (zG_hit (bAV b5)) <| st (zP_v (vInt_any rfl rfl (fun _ _ => rfl) rfl)) <| st (zP_v (vPick_f (bAV b5))) <| zpf rfl <| zpK <| st zReg_eq <| st (zP_v (vInt_eq fAdd_ok rfl rfl (aAdd1 (by omega)))) ?_
   refine zV_q (vMv_q rfl) rfl ?_
   exact loop81 l s v f1 f2 hsv hl J D hround d (i + 1) q _ _ fr9 _ _ _ _ (by omega) (by omega) (by rwa [if_pos (by simpa using ‹(!p) = false›)] at hp) hH h1 h2
theorem c81 {k : Nat} {Y : YE} (l : Nat) (s : Txt) (v : List Nat) (f1 f2 : Bool) (hsv : s.length = v.length) (hl : s.length ≤ 1000) (hk : 1000 < k) (J : List PM → HL → Prop) (D : HL → Prop)
  (hround : ∀ H x r fr, J (x :: r) fr → Has H fr → ∃ p H' ac fr', CY (k + 51) Y (.yield l) [mapA x.1 x.2, .nilIface] (rep H) = some (.bool p, rep H', ac) ∧ Has H' fr' ∧ (if p then J r fr' else D fr')) (H : Heap) (fr : HL) (hj : J (List.zipWith oneM s v) fr) (hH : Has H fr) :
  ∃ r H' ac fr', CY (k + 52) Y (.func 81) [.yield l, .ref [.sl v.length (numC v) f2], .ref [.clo 60 [.ref sMapC, .ref (mapV s f1 v f2)]]] (rep H) = some (r, rep H', ac) ∧ Has H' fr' ∧ (J [] fr' ∨ D fr') := by
 refine raw_goQ (zf := G81 E1) (fun _ fr' => J [] fr' ∨ D fr') rfl rfl (fun _ => rfl) ?_
 unfold G81
 dsimp only
 refine zpR <| st (wV_load (wL_ref rfl rfl rfl)) <| st (zV_v (vLenL_sl rfl)) ?_
 refine zV_q (vMv_q rfl) rfl ?_
 refine st zBlock_app ?_
 exact loop81 l s v f1 f2 hsv hl J D hround v.length 0 _ _ _ fr _ _ _ _ (by omega) (by omega) hj hH (fun _ _ _ _ _ _ _ fr h g => endsH ⟨fr, g, .inl h⟩) (fun _ _ _ _ _ _ _ fr h g => endsH ⟨fr, g, .inr h⟩)
theorem c63 {k : Nat} (Y : YE) (T : TH) (s : Txt) (v : List Nat) (f1 f2 : Bool) : CY (k + 1) Y (.func 63) [.sl v.length (numC v) f2, .clo 60 [.ref sMapC, .ref (mapV s f1 v f2)]] T = some (.clo 81 [.ref [.sl v.length (numC v) f2], .ref [.clo 60 [.ref sMapC, .ref (mapV s f1 v f2)]]], T, ⟨[], [], false⟩) := by
 refine call_go (zf := G63 E1) rfl rfl (fun _ => rfl) (fun _ => rfl) ?_
 unfold G63
 dsimp only
 refine zpR <| st (sV_new (ev_box rfl rfl ⟨_, rfl⟩)) <| st (sV_new (ev_box rfl rfl ⟨_, rfl⟩)) <| st (zV_v (vMv_q rfl)) <| zpR <| st (sP_val (ev_mkFunc rfl)) <| st (zV_v (vMv_q rfl)) <| st zRet_app ?_
 exact ends_fz rfl
end Go.Proofs.PxM6
