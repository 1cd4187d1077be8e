/- Canon: rows that rise (walks by zauto). -/
import Derived.Test.YtjpllnhlpgbgmaaGreatPzM6Qa
set_option linter.unusedVariables false
set_option linter.unusedSimpArgs false
set_option maxRecDepth 100000
namespace Go.Proofs.PxM6
open Go Go.Px Go.Proofs
theorem str_at {l : Txt} {i : Nat} {x : List Nat} (h : l[i]? = some x) : (txtC l).drop (i * 1) = .str x :: (txtC l).drop (i * 1 + 1) := by
 have hlt := (List.getElem?_eq_some_iff.1 h).1
 have e := (List.getElem?_eq_some_iff.1 h).2
 rw [Nat.mul_one, List.drop_eq_getElem_cons (by simpa [txtC] using hlt)]
 simp [txtC, e]
def pairsT : Txt → List (List Nat × List Nat)
 | a :: b :: l => (a, b) :: pairsT (b :: l)
 | _ => []
noncomputable def body152 (call : CallTT) : CZ := xbody152 E1 call
def V152 (keys : Txt) (f : Bool) (l : Nat) (i : AV) : List AV := [i, .ref [.sl keys.length (txtC keys) f], .yield l]
theorem loop152 {P : Ans → Prop} {kn : KB} {kx : Nat → KB} {kr : KB} {k : Nat} {Y : YE} (l : Nat) (keys : Txt) (f : Bool) (hk : keys.length ≤ 1000000) (J : List (List Nat × List Nat) → HL → Prop) (D : HL → Prop)
  (hround : ∀ H a b r fr, J ((a, b) :: r) fr → Has H fr → ∃ p H' ac fr', CY k Y (.yield l) [.str a, .str b] (rep H) = some (.bool p, rep H', ac) ∧ Has H' fr' ∧ (if p then J r fr' else D fr')) :
  ∀ (d i q : Nat) (L : List AV) (H : Heap) (fr : HL), i + d = keys.length → d < q → J (pairsT (keys.drop i)) fr → Has H fr → (∀ L i H fr, J [] fr → Has H fr → P (kx 0 L (V152 keys f l i) (rep H))) → (∀ L i H fr, D fr → Has H fr → P (kr L (V152 keys f l i) (rep H))) →
   P (zLoop q (body152 (CY k Y)) kn kx kr L (V152 keys f l (iV (i + 1 : Nat))) (rep H))
 | 0, i, q, L, H, fr, hi, hq, hj, hH, h1, h2 => by
  obtain ⟨q, rfl⟩ : ∃ q', q = q' + 1 := ⟨q - 1, by omega⟩
  refine st zLoop_one ?_
  unfold body152 xbody152
  rw [List.drop_eq_nil_of_le (by omega)] at hj
  refine zpA <| zpR <| st (zL_v (wL_ref rfl rfl rfl)) <| st (zP_v (vLenL_sl rfl)) <| st (zP_v (vInt_eq fLss_ok rfl rfl (fLss' (by omega)))) <| zpf rfl <| st zExit_app ?_
  exact h1 _ _ _ _ hj hH
 | d + 1, i, q, L, H, fr, hi, hq, hj, hH, h1, h2 => by
  obtain ⟨q, rfl⟩ : ∃ q', q = q' + 1 := ⟨q - 1, by omega⟩
  obtain ⟨a, ha⟩ := get_some (l := keys) (i := i) (by omega)
  have hl := txtC_len keys
  rw [drop_at ha] at hj
  refine st zLoop_one ?_
  unfold body152 xbody152
  by_cases hd : d = 0
  ·subst hd
   rw [List.drop_eq_nil_of_le (by omega)] at hj
   refine zpA <| zpR <| st (zL_v (wL_ref rfl rfl rfl)) <| st (zP_v (vLenL_sl rfl)) <| st (zP_v (vInt_eq fLss_ok rfl rfl (fLss' (by omega)))) <| zpf rfl <| st zExit_app ?_
   exact h1 _ _ _ _ hj hH
  ·obtain ⟨b, hb⟩ := get_some (l := keys) (i := i + 1) (by omega)
   rw [drop_at hb] at hj
   refine zpA <| zpR <| st (zL_v (wL_ref rfl rfl rfl)) <| st (zP_v (vLenL_sl rfl)) <| st (zP_v (vInt_eq fLss_ok rfl rfl (tLss (by omega)))) <| zpt rfl <| zpK <| zpA <| st zBlock_app <| zpA ?_
   refine qd1 hH fun n1 Hn1 hH => ?_
   refine st (zLD_idle (wL_ref rfl rfl rfl) rfl) <| st (zPD_v (vInt_eq fSub_ok rfl rfl (aSubS (by omega)))) <| st (zPD_v (vIndexAddr_sl rfl rfl (by omega) (by omega))) ?_
   rw [str_at ha]
   refine st (zLD_idle (wL_ref rfl rfl rfl) rfl) <| st (zLD_idle (wL_ref rfl rfl rfl) rfl) <| st (zPD_v (vIndexAddr_sl rfl rfl (by omega) (by omega))) ?_
   rw [str_at hb]
   refine st (zLD_idle (wL_ref rfl rfl rfl) rfl) ?_
   (obtain ⟨p, H9, ac, fr9, hc, hH, hp⟩ := hround _ a b (pairsT (b::keys.drop (i + 1 + 1))) _ hj (has_tail hH); refine st (dP_callA hc (ev_callv rfl rfl rfl) trivial spOk_nil) ?_)
   refine st (zPD_v (vNot_eq rfl)) ?_
   refine two (b := !p) (fun b2 => ?_) (fun b2 => ?_)
   ·refine st (zCond_t (bAV b2)) <| st zRet_app ?_
    exact h2 _ _ _ fr9 (by rwa [if_neg (by simp_all)] at hp) hH
   ·refine st (zCond_f (bAV b2)) <| zpK <| st zReg_eq <| st (zP_v (vMv_q rfl)) <| st (zP_v (vInt_eq fAdd_ok rfl rfl (aAdd1 (by omega)))) ?_
    refine zV_q (vMv_q rfl) rfl ?_
    exact loop152 l keys f hk J D hround d (i + 1) q _ _ fr9 (by omega) (by omega) (by rw [drop_at hb]; rwa [if_pos (by simpa using ‹(!p) = false›)] at hp) hH h1 h2
theorem c134 {k : Nat} (Y : YE) (T : TH) (keys : Txt) (f : Bool) : CY (k + 1) Y (.func 134) [.sl keys.length (txtC keys) f] T = some (.clo 152 [.ref [.sl keys.length (txtC keys) f]], T, ⟨[], [], false⟩) := by
 refine call_go (zf := G134 E1) rfl rfl (fun _ => rfl) (fun _ => rfl) ?_
 unfold G134
 dsimp only
 refine zpR <| st (sV_new (ev_box rfl rfl ⟨_, rfl⟩)) <| st (zV_v (vMv_q rfl)) <| zpR <| st (sP_val (ev_mkFunc rfl)) <| st (zV_v (vMv_q rfl)) <| st zRet_app ?_
 exact ends_fz rfl
theorem c152 {k : Nat} {Y : YE} (l : Nat) (keys : Txt) (f : Bool) (hk : keys.length ≤ 1000000) (hk2 : keys.length < k) (J : List (List Nat × List Nat) → HL → Prop) (D : HL → Prop)
  (hround : ∀ H a b r fr, J ((a, b) :: r) fr → Has H fr → ∃ p H' ac fr', CY k Y (.yield l) [.str a, .str b] (rep H) = some (.bool p, rep H', ac) ∧ Has H' fr' ∧ (if p then J r fr' else D fr')) (H : Heap) (fr : HL) (hj : J (pairsT keys) fr) (hH : Has H fr) :
  ∃ r H' ac fr', CY (k + 1) Y (.func 152) [.yield l, .ref [.sl keys.length (txtC keys) f]] (rep H) = some (r, rep H', ac) ∧ Has H' fr' ∧ (J [] fr' ∨ D fr') := by
 refine raw_goQ (zf := G152 E1) (fun _ fr' => J [] fr' ∨ D fr') rfl rfl (fun _ => rfl) ?_
 unfold G152
 dsimp only
 refine zpR ?_
 refine zV_q (vMv_q rfl) rfl ?_
 refine st zBlock_app ?_
 exact loop152 l keys f hk J D hround keys.length 0 k _ _ fr (by omega) (by omega) hj hH (fun _ _ _ fr h g => endsH ⟨fr, g, .inl h⟩) (fun _ _ _ fr h g => endsH ⟨fr, g, .inr h⟩)
def Rises (l : Txt) : Prop := ∀ p ∈ pairsT l, lessN p.1 p.2 = true
theorem c112 {k : Nat} (Y : YE) (T : TH) (keys : Txt) (f : Bool) (hr : Rises keys) (hk : keys.length ≤ 1000000) (hk2 : keys.length < k) : CY (k + 3) Y (.func 112) [.sl keys.length (txtC keys) f] T = some (.bool true, T, ⟨[], [], false⟩) := by
 refine call_go (zf := G112 E1) rfl rfl (fun _ => rfl) (fun _ => rfl) ?_
 unfold G112
 dsimp only
 have hH : Has ([] : Heap) [] := has_nil
 refine zpR ?_
 refine qV_new hH (ev_allocQ rfl) (fun _ => rfl) fun n1 Hn1 hH => ?_
 refine zpA <| zpR <| st (cP_call rfl (c134 _ _ _ _)) <| st zBlock_app ?_
 refine zRangeQ hH rfl fun l H1 hH => ?_
 obtain ⟨r, H2, ac, fr2, hc, hH2, hj⟩ := c152 (k := k + 1) (Y := ⟨l, 2, [.undef, .undef, .undef, .undef, .loc n1 0]⟩ :: []) l keys f hk (by omega) (fun x fr => (∀ p ∈ x, lessN p.1 p.2 = true) ∧ ∃ tm ps a b, fr = [(l, .loop .ready none tm ps a b), (n1, .row 4 [.bool false] false)]) (fun _ => False)
  (fun H a b r fr ⟨h1, tm, ps, ca, cb, h2⟩ hH => by
   subst h2
   have hab := h1 (a, b) (by simp)
   obtain ⟨p, H', ac, fr', hc, hH', rfl, hg⟩ := round_goQ (E := E1) (GE := GE E1) (LZ := LZ E1) (k := k) (Y := ⟨l, 2, [.undef, .undef, .undef, .undef, .loc n1 0]⟩ :: []) (args := [.str a, .str b]) (zl := M2 E1) (d := ⟨l, 2, [.undef, .undef, .undef, .undef, .loc n1 0]⟩) (fun p fr' => p = true ∧ ∃ tm ps a b, fr' = [(l, .loop .ready none tm ps a b), (n1, .row 4 [.bool false] false)]) (ye_at _ _) rfl hH 0 rfl rfl (by
    unfold M2
    dsimp only
    refine zpR ?_
    refine zV_q (vMv_q rfl) rfl ?_
    refine st zReg_eq ?_
    refine zV_q (vMv_q rfl) rfl ?_
    refine aftQ hH 0 rfl rfl fun H1 hH => ?_
    dsimp only
    refine st zBlock_app <| zpR <| st (zP_v (vInt_bin rfl rfl rfl)) <| st (zCond_f (bAVn hab)) <| zpK ?_
    refine endQ hH 0 rfl rfl fun H2 hH => ?_
    exact ⟨_, hH, rfl, _, _, _, _, rfl⟩
    )
   exact ⟨true, H', ac, fr', hc, hH', fun p hp => h1 p (by simp [hp]), hg⟩)
  H1 _ ⟨hr, _, _, _, _, rfl⟩ hH
 refine ⟨r, H2, ac, hc, ?_⟩
 rcases hj with ⟨_, tm, ps, ca, cb, rfl⟩ | h
 ·refine ⟨_, _, _, _, _, _, _, hH2, rfl, .inl ⟨rfl, fun H3 hH => ?_⟩⟩
  refine zpR ?_
  refine qN_put hH 0 rfl rfl rfl rfl ⟨_, rfl, rfl⟩ rfl rfl rfl fun H1 hH => ?_
  refine st zRet_app ?_
  exact ends_cl rfl (has_get hH 0 rfl) ⟨_, rfl, rfl, rfl⟩ rfl
 ·exact h.elim
end Go.Proofs.PxM6
