/- Canon: a map put right (walks by zauto). -/
import Derived.Test.YtjpllnhlpgbgmaaGreatPzM6Qg
set_option linter.unusedVariables false
set_option linter.unusedSimpArgs false
set_option maxRecDepth 100000
namespace Go.Proofs.PxM6
open Go Go.Px Go.Proofs
def joinM (a b : PM) : PM := ((mergeE (rowE a.1 a.2) (rowE b.1 b.2)).map (·.1.1), (mergeE (rowE a.1 a.2) (rowE b.1 b.2)).map mN)
def foldM (x : List PM) : PM := x.foldl joinM ([], [])
theorem foldM_app (x : List PM) (o : PM) : foldM (x ++ [o]) = joinM (foldM x) o := by simp [foldM]
def d62 (l s r e o : Nat) : LD := ⟨l, 0, [.undef, .undef, .undef, .loc s 0, .loc o 0, .undef, .loc r 0, .loc e 0]⟩
def Fr62 (l s o : Nat) (X : HL) (a : PM) (fr : HL) : Prop := ∃ tm ps c d, fr = (l, .loop .ready none tm ps c d) :: (s, sMapR) :: (o, .row 29 (mapV a.1 (a.1.length == 0) a.2 (a.2.length == 0)) false) :: X
set_option maxHeartbeats 1000000 in
theorem round62 {k : Nat} {Y : YE} (l s rr e o : Nat) (H : Heap) (a x : PM) (ha : OkM a.1 a.2) (hx : OkM x.1 x.2) (hl : (joinM a x).1.length ≤ 40) (hk : 3000 ≤ k) (X fr : HL) (hf : Fr62 l s o X a fr) (hH : Has H fr) :
  ∃ p H' ac fr', CY (k + 57) (d62 l s rr e o :: Y) (.yield l) [mapA x.1 x.2, .nilIface] (rep H) = some (.bool p, rep H', ac) ∧ Has H' fr' ∧ (p = true ∧ Fr62 l s o X (joinM a x) fr') := by
 obtain ⟨tm, ps, ca, cb, rfl⟩ := hf
 refine round_goQ (E := E1) (GE := GE E1) (LZ := LZ E1) (k := k + 56) (zl := M0 E1) (d := d62 l s rr e o) (fun p fr' => p = true ∧ Fr62 l s o X (joinM a x) fr') (ye_at _ _) rfl hH 0 rfl rfl ?_
 have hl2 : (mergeE (rowE a.1 a.2) (rowE x.1 x.2)).length ≤ 40 := by simpa [joinM] using hl
 simp only [sMapR, mapV] at hH
 unfold M0
 dsimp only
 refine zpR ?_
 refine qV_new hH (ev_allocQ rfl) (fun _ => rfl) fun n1 Hn1 hH => ?_
 refine qN_put hH 0 rfl rfl rfl rfl ⟨_, rfl, rfl⟩ rfl rfl rfl fun H2 hH => ?_
 refine st zReg_eq ?_
 refine zV_q (vMv_q rfl) rfl ?_
 refine aftQ hH 1 rfl rfl fun H3 hH => ?_
 dsimp only
 refine st zBlock_app <| zpA <| zpR <| st (zP_v (vInt_any rfl rfl (fun _ _ => rfl) rfl)) <| zpt rfl <| st zReg_eq <| st (zL_v (wL_loc rfl (has_get hH 2 rfl) rfl rfl)) <| st (zL_v (wL_loc rfl (has_get hH 3 rfl) rfl rfl)) <| st (zL_v (wL_loc rfl (has_get hH 0 rfl) rfl rfl)) <| st (cP_call rfl (c80m (k := k) _ _ a.1 a.2 x.1 x.2 _ _ _ _ ha hx hk _ rfl hl2)) <| st (zP_v (vExt_eq rfl rfl)) <| st (zP_v (vExt_eq rfl rfl)) ?_
 refine qN_put hH 3 rfl rfl rfl rfl ⟨_, rfl, rfl⟩ rfl rfl rfl fun H4 hH => ?_
 refine zV_q (vMv_q rfl) rfl ?_
 refine zpR <| st (zP_v (vInt_any rfl rfl (fun _ _ => rfl) rfl)) <| zpf rfl <| zpK ?_
 refine endQ hH 1 rfl rfl fun H5 hH => ?_
 exact ⟨_, has_pickT hH [1, 2, 3] 4 rfl rfl rfl (by decide) rfl, rfl, _, _, _, _, rfl⟩
set_option maxHeartbeats 1000000 in
theorem c62 {k : Nat} (Y : YE) (T : TH) (s : Txt) (v : List Nat) (f1 f2 : Bool) (hsv : s.length = v.length) (hl : s.length ≤ 1000) (hk : 3000 ≤ k) (hx : ∀ x ∈ List.zipWith oneM s v, OkM x.1 x.2) (hg : ∀ p q, List.zipWith oneM s v = p ++ q → OkM (foldM p).1 (foldM p).2) :
  CY (k + 60) Y (.func 62) [sMap, .agg (numV 0), .clo 81 [.ref [.sl v.length (numC v) f2], .ref [.clo 60 [.ref sMapC, .ref (mapV s f1 v f2)]]]] T = some (.tup [mapA (foldM (List.zipWith oneM s v)).1 (foldM (List.zipWith oneM s v)).2, .nilIface], T, ⟨[], [], false⟩) := by
 refine call_go (zf := G62 E1) rfl rfl (fun _ => rfl) (fun _ => rfl) ?_
 unfold G62 sMap numV
 dsimp only
 have hH : Has ([] : Heap) [] := has_nil
 refine zpR ?_
 refine qV_new hH (ev_boxQ rfl rfl ⟨_, rfl⟩) (fun _ => rfl) fun n1 Hn1 hH => ?_
 refine qV_new hH (ev_boxQ rfl rfl ⟨_, rfl⟩) (fun _ => rfl) fun n2 Hn2 hH => ?_
 refine qV_new hH (ev_allocQ rfl) (fun _ => rfl) fun n3 Hn3 hH => ?_
 refine qV_new hH (ev_allocQ rfl) (fun _ => rfl) fun n4 Hn4 hH => ?_
 refine zpA <| zpR <| st zBlock_app ?_
 refine zRangeQ hH rfl fun l H1 hH => ?_
 obtain ⟨r, H2, ac, fr2, hc, hH2, hj⟩ := c81 (k := k + 7) (Y := d62 l n1 n3 n4 n2 :: []) l s v f1 f2 hsv hl (by omega) (fun x fr => ∃ p, List.zipWith oneM s v = p ++ x ∧ Fr62 l n1 n2 [(n3, .row 29 [.int .u64 0, .int .u64 0, .sl 0 [] true, .sl 0 [] true, .sl 0 [] true] false), (n4, .row 32 [.nilIface] false)] (foldM p) fr) (fun _ => False)
  (fun H x r fr ⟨p, h1, h2⟩ hH => by
   have e1 : List.zipWith oneM s v = (p ++ [x]) ++ r := by simp [h1]
   obtain ⟨b, H', ac, fr', hc, hH', rfl, hf⟩ := round62 (k := k + 1) (Y := []) l n1 n3 n4 n2 H (foldM p) x (hg p _ h1) (hx x (by simp [h1])) (by rw [← foldM_app]; exact (hg _ _ e1).le) (by omega) _ fr h2 hH
   exact ⟨true, H', ac, fr', hc, hH', ⟨p ++ [x], e1, by rw [foldM_app]; exact hf⟩⟩)
  H1 _ ⟨[], rfl, _, _, _, _, rfl⟩ (has_pick hH [0, 4, 3, 2, 1] rfl (by decide))
 refine ⟨r, H2, ac, hc, ?_⟩
 rcases hj with ⟨p, h1, tm, ps, ca, cb, rfl⟩ | h
 ·obtain rfl : List.zipWith oneM s v = p := by simpa using h1
  refine ⟨_, _, _, _, _, _, _, hH2, rfl, .inl ⟨rfl, fun H3 hH => ?_⟩⟩
  simp only [sMapR, mapV] at hH
  refine zpR <| st (zL_v (wL_loc rfl (has_get hH 1 rfl) rfl rfl)) ?_
  refine qN_put hH 2 rfl rfl rfl rfl ⟨_, rfl, rfl⟩ rfl rfl rfl fun H1 hH => ?_
  refine qN_put hH 3 rfl rfl rfl rfl ⟨_, rfl, rfl⟩ rfl rfl rfl fun H2 hH => ?_
  refine st zRet_app ?_
  exact ends_cc rfl (has_get hH 2 rfl) ⟨_, rfl, rfl, rfl⟩ rfl (has_get hH 3 rfl) ⟨_, rfl, rfl, rfl⟩ rfl
 ·exact h.elim
set_option maxHeartbeats 1000000 in
theorem c35 {k : Nat} (Y : YE) (T : TH) (s : Txt) (v : List Nat) (f1 f2 : Bool) (hsv : s.length = v.length) (hl : s.length ≤ 1000) (hk : 3000 ≤ k) (hx : ∀ x ∈ List.zipWith oneM s v, OkM x.1 x.2) (hg : ∀ p q, List.zipWith oneM s v = p ++ q → OkM (foldM p).1 (foldM p).2) :
  CY (k + 61) Y (.func 35) [sMap, .agg (mapV s f1 v f2)] T = some (.tup [mapA (foldM (List.zipWith oneM s v)).1 (foldM (List.zipWith oneM s v)).2, .nilIface], T, ⟨[], [], false⟩) := by
 refine call_go (zf := G35 E1) rfl rfl (fun _ => rfl) (fun _ => rfl) ?_
 unfold G35 sMap mapV
 dsimp only
 have hH : Has ([] : Heap) [] := has_nil
 refine zpR ?_
 refine qV_new hH (ev_boxQ rfl rfl ⟨_, rfl⟩) (fun _ => rfl) fun n1 Hn1 hH => ?_
 refine qV_new hH (ev_boxQ rfl rfl ⟨_, rfl⟩) (fun _ => rfl) fun n2 Hn2 hH => ?_
 refine qV_new hH (ev_allocQ rfl) (fun _ => rfl) fun n3 Hn3 hH => ?_
 refine zV_q (vMv_q rfl) rfl ?_
 refine zpR ?_
 refine qV_new hH (ev_allocQ rfl) (fun _ => rfl) fun n4 Hn4 hH => ?_
 refine zpR <| st (sP_val (ev_mkFunc rfl)) ?_
 refine zV_q (vMv_q rfl) rfl ?_
 refine zpA ?_
 refine qd2 hH fun n5 Hn5 hH => ?_
 refine st (zLD_v (wL_loc rfl (has_get hH 5 rfl) rfl rfl) rfl spOk_nil) <| st (zLD_v (wL_loc rfl (has_get hH 2 rfl) rfl rfl) rfl (spOk_apart rfl spOk_nil)) <| st (zPD_v (vFieldAddr_loc rfl)) <| st (zLD_v (wL_loc rfl (has_get hH 4 rfl) rfl rfl) rfl (spOk_apart rfl (spOk_apart rfl spOk_nil))) ?_
 refine qD_callN rfl (call_fzN (c63 (k := k + 59) [] .nil s v f1 f2) rfl (fun _ => rfl) (fzL_cons rfl (fzL_cons (fzG_cloL (fzL_cons (fzG_locL (has_get hH 5 rfl) rfl rfl) (fzL_cons (fzG_locL (has_get hH 4 rfl) rfl rfl) rfl))) rfl)) rfl) rfl (by repeat' first | exact spOk_nil | refine spOk_bef rfl ?_ | (refine spOk_apart (mtA rfl rfl ?_) ?_; focus (have q := has_nd hH; simp at q; simp [Acc.add, Acc.none, Acc.read] <;> omega))) (has_mk hH 5 rfl rfl rfl fun _ hH => has_mk hH 4 rfl rfl rfl fun _ hH => has_mkN hH rfl) fun H9 hH => ?_
 refine st (cP_idle rfl (c62 (k := k) _ _ s v f1 f2 hsv hl hk hx hg) rfl) <| st (zPD_v (vExt_eq rfl rfl)) <| st (zPD_v (vExt_eq rfl rfl)) ?_
 refine qDN_put hH 3 rfl rfl rfl rfl ⟨_, rfl, rfl⟩ rfl rfl rfl (spOk_bef rfl (spOk_bef rfl (spOk_bef rfl (spOk_bef rfl spOk_nil)))) fun H6 hH => ?_
 refine zVD_q (vMv_q rfl) rfl ?_
 refine st zRet_app ?_
 exact ends_ct rfl (has_get hH 3 rfl) ⟨_, rfl, rfl, rfl⟩ rfl
end Go.Proofs.PxM6
