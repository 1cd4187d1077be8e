/- Views: a row that rises, as an iterator's pairs (walks by zauto). -/
import Derived.Test.YtpdgbkmpcahjjaaPzV2I
set_option linter.unusedVariables false
set_option linter.unusedSimpArgs false
set_option maxRecDepth 100000
namespace Go.Proofs.PxV2
open Go Go.Px Go.Proofs
def strC (l : List (List Nat)) : List AV := l.map AV.str
theorem strC_len (l : List (List Nat)) : (strC l).length = l.length := by simp [strC]
theorem str_at {l : List (List Nat)} {i : Nat} {x : List Nat} (h : l[i]? = some x) : (strC l).drop (i * 1) = .str x :: (strC l).drop (i * 1 + 1) := by
 have hlt := (List.getElem?_eq_some_iff.1 h).1
 have e := (List.getElem?_eq_some_iff.1 h).2
 rw [Nat.mul_one, List.drop_eq_getElem_cons (by simpa [strC] using hlt)]
 simp [strC, e]
def pairsT : List (List Nat) → List (List Nat × List Nat)
 | a :: b :: l => (a, b) :: pairsT (b :: l)
 | _ => []
noncomputable def body88 (call : CallTT) : CZ := xbody88 E1 call
def V88 (keys : List (List Nat)) (f : Bool) (l : Nat) (i : AV) : List AV := [i, .ref [.sl keys.length (strC keys) f], .yield l]
theorem loop88 {P : Ans → Prop} {kn : KB} {kx : Nat → KB} {kr : KB} {k : Nat} {Y : YE} (l : Nat) (keys : List (List Nat)) (f : Bool) (hk : keys.length ≤ 9223372036854775807) (J : List (List Nat × List Nat) → Heap → Prop) (D : Heap → Prop)
  (hJ : ∀ x H Z, J x H → J x (H ++ Z))
  (hround : ∀ H a b r, J ((a, b) :: r) H → ∃ p H' ac, CY k Y (.yield l) [.str a, .str b] (rep H) = some (.bool p, rep H', ac) ∧ (if p then J r H' else D H')) :
  ∀ (d i q : Nat) (L : List AV) (H : Heap), i + d = keys.length → d < q → J (pairsT (keys.drop i)) H → (∀ L i H, J [] H → P (kx 0 L (V88 keys f l i) (rep H))) → (∀ L i H, D H → P (kr L (V88 keys f l i) (rep H))) →
   P (zLoop q (body88 (CY k Y)) kn kx kr L (V88 keys f l (iV (i + 1 : Nat))) (rep H))
 | 0, i, q, L, H, hi, hq, hj, h1, h2 => by
  obtain ⟨q, rfl⟩ : ∃ q', q = q' + 1 := ⟨q - 1, by omega⟩
  refine st zLoop_one ?_
  unfold body88 xbody88
  rw [List.drop_eq_nil_of_le (by omega)] at hj
  refine zpA <| zpR <| st (zL_v (wLoad_ref rfl (by simp) rfl)) <| st (zP_v (vLenL_sl rfl)) <| st (zP_v (vInt_eq fLss_ok rfl rfl (fLss' (by omega)))) <| zpf rfl <| st zExit_app ?_
  exact h1 _ _ _ hj
 | d + 1, i, q, L, H, hi, hq, hj, h1, h2 => by
  obtain ⟨q, rfl⟩ : ∃ q', q = q' + 1 := ⟨q - 1, by omega⟩
  obtain ⟨a, ha⟩ := get_some (l := keys) (i := i) (by omega)
  have hl := strC_len keys
  rw [drop_at ha] at hj
  refine st zLoop_one ?_
  unfold body88 xbody88
  by_cases hd : d = 0
  ·subst hd
   rw [List.drop_eq_nil_of_le (by omega)] at hj
   refine zpA <| zpR <| st (zL_v (wLoad_ref rfl (by simp) rfl)) <| st (zP_v (vLenL_sl rfl)) <| st (zP_v (vInt_eq fLss_ok rfl rfl (fLss' (by omega)))) <| zpf rfl <| st zExit_app ?_
   exact h1 _ _ _ hj
  ·obtain ⟨b, hb⟩ := get_some (l := keys) (i := i + 1) (by omega)
   rw [drop_at hb] at hj
   obtain ⟨p, H', ac, hc, hp⟩ := hround (H ++ List.replicate 1 .dead) a b (pairsT (b :: keys.drop (i + 1 + 1))) (hJ _ _ _ hj)
   refine zpA <| zpR <| st (zL_v (wLoad_ref rfl (by simp) rfl)) <| st (zP_v (vLenL_sl rfl)) <| st (zP_v (vInt_eq fLss_ok rfl rfl (tLss (by omega)))) <| zpt rfl <| zpK <| zpA <| st zBlock_app <| zpA <| st zDreg_eq <| st (zLD_idle (wLoad_ref rfl (by simp) rfl) rfl) <| st (zPD_v (vInt_eq fSub_ok rfl rfl (aSubS (by omega)))) <| st (zPD_v (vIndexAddr_sl rfl rfl (by omega) (by omega))) ?_
   rw [str_at ha]
   refine st (zLD_idle (wLoad_ref rfl (by simp) rfl) rfl) <| st (zLD_idle (wLoad_ref rfl (by simp) rfl) rfl) <| st (zPD_v (vIndexAddr_sl rfl rfl (by omega) (by omega))) ?_
   rw [str_at hb]
   refine st (zLD_idle (wLoad_ref rfl (by simp) rfl) rfl) <| st (dP_callA hc (ev_callv rfl rfl rfl) trivial spOk_nil) <| st (zPD_v (vNot_eq rfl)) ?_
   refine two (b := !p) (fun b1 => ?_) (fun b1 => ?_)
   ·refine st (zCond_t (bAV b1)) <| st zRet_app ?_
    exact h2 _ _ _ (by rwa [if_neg (by simp_all)] at hp)
   ·refine st (zCond_f (bAV b1)) <| zpK <| st zReg_eq <| st (zP_v vMv_eq) <| st (zP_v (vInt_eq fAdd_ok rfl rfl (aAdd1 (by omega)))) <| zpV ?_
    exact loop88 l keys f hk J D hJ hround d (i + 1) q _ _ (by omega) (by omega) (by rw [drop_at hb]; rwa [if_pos (by simpa using ‹(!p) = false›)] at hp) h1 h2
theorem c74 {k : Nat} (Y : YE) (T : TH) (keys : List (List Nat)) (f : Bool) : CY (k + 1) Y (.func 74) [.sl keys.length (strC keys) f] T = some (.clo 88 [.ref [.sl keys.length (strC keys) f]], T, ⟨[], [], false⟩) := by
 refine call_go (zf := G74 E1) rfl rfl (fun _ => rfl) (fun _ => rfl) ?_
 unfold G74
 dsimp only
 refine zpR <| st (sV_new (ev_box rfl rfl ⟨_, rfl⟩)) <| zpV <| zpR <| st (sP_val (ev_mkFunc rfl)) <| zpV <| st zRet_app ?_
 exact ends_fz rfl
theorem c88 {k : Nat} {Y : YE} (l : Nat) (keys : List (List Nat)) (f : Bool) (hk : keys.length ≤ 9223372036854775807) (hk2 : keys.length < k) (J : List (List Nat × List Nat) → Heap → Prop) (D : Heap → Prop)
  (hJ : ∀ x H Z, J x H → J x (H ++ Z))
  (hround : ∀ H a b r, J ((a, b) :: r) H → ∃ p H' ac, CY k Y (.yield l) [.str a, .str b] (rep H) = some (.bool p, rep H', ac) ∧ (if p then J r H' else D H')) (H : Heap) (hj : J (pairsT keys) H) :
  ∃ r H' ac, CY (k + 1) Y (.func 88) [.yield l, .ref [.sl keys.length (strC keys) f]] (rep H) = some (r, rep H', ac) ∧ (J [] H' ∨ D H') := by
 refine raw_go (zf := G88 E1) (Q := fun _ H' => J [] H' ∨ D H') rfl rfl (fun _ => rfl) ?_
 unfold G88
 dsimp only
 refine zpR <| zpV <| st zBlock_app ?_
 exact loop88 l keys f hk J D hJ hround keys.length 0 k _ _ (by omega) (by omega) hj (fun _ _ _ h => endsH (.inl h)) (fun _ _ _ h => endsH (.inr h))
end Go.Proofs.PxV2
