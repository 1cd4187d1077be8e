/- The reference's way round the ring: a mark is laid. -/
import Derived.Test.YtpdgbkmpcahjjaaPzR2X3
set_option linter.unusedVariables false
set_option linter.unusedSimpArgs false
set_option maxRecDepth 100000
namespace Go.Proofs.PxR2
open Go Go.Px Go.Proofs
theorem ap_rn {nm s : Nat} (h : nm ≠ s) : (Acc.read nm).meets (Acc.none.add (some s)) = false := by
  refine meets_apart rfl rfl (fun x hx => by cases hx) (fun x hx => by cases hx) (fun x hx => ?_)
  simp [Acc.add, Acc.none] at hx
  subst hx
  simpa [Acc.read] using fun e : x = nm => h e.symm
theorem ap_ar {nm sn s : Nat} (h : sn ≠ s) : ((Acc.read nm).add (some s)).meets (Acc.read sn) = false := by
  refine meets_apart rfl rfl (fun x hx => ?_) (fun x hx hy => by cases hy) (fun x hx => by cases hx)
  simp [Acc.add, Acc.read] at hx
  subst hx
  simpa [Acc.read] using fun e : x = sn => h e.symm
theorem ap_an {nm s t : Nat} (h1 : s ≠ t) (h2 : nm ≠ t) : ((Acc.read nm).add (some s)).meets (Acc.none.add (some t)) = false := by
  refine meets_apart rfl rfl (fun x hx hy => by cases hy) (fun x hx => ?_) (fun x hx => ?_)
  · simp [Acc.add, Acc.read] at hx
    subst hx
    simpa [Acc.add, Acc.none] using h1
  · simp [Acc.add, Acc.none] at hx
    subst hx
    simpa [Acc.add, Acc.read] using fun e : x = nm => h2 e.symm
theorem laySpot (call : CallTT) (key : List Nat) (i nodes k atv i2 out v6 : AV) (H : Heap) (sn : Nat) (s : Spot) (l : List Spot) (j : Nat) (ho : OwnF 85 H v6 l) (hs : H[sn]? = some (.row 85 [.int .u64 (s.1 : Int), iV s.2] false)) (hj : j ≤ l.length) (hll : l.length < 100000) (L0 : List AV) :
    ∃ L' H' v', (∀ kn kx kr, regB call kn kx kr L0 (VR key i nodes k atv (iV j) v6 (.loc sn 0) i2 out) (rep H) = kn L' (VR key i nodes k atv (iV j) v' (.loc sn 0) i2 out) (rep H')) ∧ OwnF 85 H' v' (l.take j ++ s :: l.drop j) ∧ (∀ (i : Nat) (o : AO), H[i]? = some o → H'[i]? = some o) := by
  have hsl := len_of hs
  obtain ⟨H1, eH1⟩ : ∃ H1, H1 = H ++ List.replicate 4 AO.dead := ⟨_, rfl⟩
  have hlen : H1.length = H.length + 4 := by rw [eH1]; simp
  have old1 : ∀ (i : Nat) (o : AO), H[i]? = some o → H1[i]? = some o := fun i o h => by rw [eH1]; exact get_app h
  have hs1 := old1 _ _ hs
  have hcs : spotCells [s] = [.int .u64 (s.1 : Int), iV s.2] := rfl
  rcases ho with ⟨rfl, rfl⟩ | ⟨hne, nm, rfl, hrow⟩
  · -- the first one
    have hj0 : j = 0 := by simpa using hj
    subst hj0
    obtain ⟨H2, eH2⟩ : ∃ H2, H2 = H1.set (H.length + 1) (AO.row 85 [.int .u64 (s.1 : Int), iV s.2] false) := ⟨_, rfl⟩
    have g1 : H2[H.length + 1]? = some (.row 85 [.int .u64 (s.1 : Int), iV s.2] false) := by rw [eH2]; exact List.getElem?_set_self (by omega)
    have hl2 : H2.length = H.length + 4 := by rw [eH2]; simp [hlen]
    refine ⟨?_, H2.set (H.length + 2) (.row 85 [.int .u64 (s.1 : Int), iV s.2] false), .own (H.length + 2) 0 1 2, fun kn kx kr => ?_, ?_, fun i o h => ?_⟩
    rotate_left
    · unfold regB
      refine zDreg_eq.trans ?_
      rw [← eH1]
      refine (zPD_v vMv_eq).trans ?_
      refine (zStepD_val rfl (slice_nil_hi rfl rfl) rfl).trans ?_
      refine (zStepD_val rfl (append_nil row83 rfl (.inl rfl) rfl) rfl).trans ?_
      refine (zLD_v (wLoad_loc rfl hs1 (by simp) rfl) rfl spOk_nil).trans ?_
      refine (zStepD_new rfl rfl (buildOne row83 rfl rfl z85 (by decide)) rfl (spOk_bef (by decide) spOk_nil)).trans ?_
      show zStepD E1 call B7 H.length _ _ _ _ _ (rep (H1.set (H.length + 1) (AO.row 85 [.int .u64 (s.1 : Int), iV s.2] false))) = _
      rw [← eH2]
      refine (zStepD_new rfl rfl (append_firstG (cs := [.int .u64 (s.1 : Int), iV s.2]) row83 rfl rfl g1 rfl (by decide) (by decide)) rfl (spOk_bef (by decide) (spOk_bef (by decide) spOk_nil))).trans ?_
      refine (zPD_v vMv_eq).trans ?_
      refine (zStepD_val rfl (slice_nil_lo rfl rfl) rfl).trans ?_
      refine (zStepD_val rfl (append_nil row83 rfl (.inr ⟨_, _, _, _, rfl⟩) rfl) rfl).trans ?_
      refine (zVD_v vMv_eq).trans ?_
      rfl
    · refine .inr ⟨by simp, H.length + 2, rfl, ?_⟩
      exact List.getElem?_set_self (by omega)
    · have := len_of h
      rw [eH2]
      exact get_set (get_set (old1 i o h) (by omega)) (by omega)
  have hrl := len_of hrow
  have hrow1 := old1 _ _ hrow
  have hcl := spotCells_length l
  have htl : (spotCells (l.take j)).length = j * 2 := by rw [spotCells_length]; simp; omega
  have htake : ((spotCells l).drop 0).take (j * 2) = spotCells (l.take j) := by rw [List.drop_zero]; exact spot_take l j
  have hdrop : ((spotCells l).drop (j * 2)).take ((l.length - j) * 2) = spotCells (l.drop j) := by
    rw [spot_dropC, List.take_of_length_le]
    rw [spotCells_length]; simp
  have hcat1 : spotCells (l.take j ++ [s]) = spotCells (l.take j) ++ [.int .u64 (s.1 : Int), iV s.2] := by rw [spotCells_append]; rfl
  have hcat2 : spotCells (l.take j ++ s :: l.drop j) = spotCells (l.take j) ++ [.int .u64 (s.1 : Int), iV s.2] ++ spotCells (l.drop j) := by
    rw [show l.take j ++ s :: l.drop j = (l.take j ++ [s]) ++ l.drop j by simp, spotCells_append, hcat1]
  have htlen : (l.take j).length = j := by simp; omega
  by_cases hj0 : j = 0
  · -- ahead of all
    subst hj0
    have ht0 : spotCells (l.take 0) = [] := rfl
    obtain ⟨H3, eH3⟩ : ∃ H3, H3 = H1.set (H.length + 1) (AO.row 85 [.int .u64 (s.1 : Int), iV s.2] false) := ⟨_, rfl⟩
    have hl3 : H3.length = H.length + 4 := by rw [eH3]; simp [hlen]
    have old3 : ∀ (i : Nat) (o : AO), H[i]? = some o → H3[i]? = some o := fun i o h => by have := len_of h; rw [eH3]; exact get_set (old1 i o h) (by omega)
    have gs3 : H3[H.length + 1]? = some (.row 85 [.int .u64 (s.1 : Int), iV s.2] false) := by rw [eH3]; exact List.getElem?_set_self (by omega)
    obtain ⟨H4, eH4⟩ : ∃ H4, H4 = H3.set (H.length + 2) (AO.row 85 [.int .u64 (s.1 : Int), iV s.2] false) := ⟨_, rfl⟩
    have hl4 : H4.length = H.length + 4 := by rw [eH4]; simp [hl3]
    have old4 : ∀ (i : Nat) (o : AO), H[i]? = some o → H4[i]? = some o := fun i o h => by have := len_of h; rw [eH4]; exact get_set (old3 i o h) (by omega)
    have g24 : H4[H.length + 2]? = some (.row 85 (spotCells (l.take 0) ++ [.int .u64 (s.1 : Int), iV s.2]) false) := by rw [ht0, eH4]; exact List.getElem?_set_self (by omega)
    have gr4 := old4 _ _ hrow
    by_cases hjl : l.length - 0 = 0
    · exact absurd (List.length_eq_zero_iff.1 (by omega)) hne
    · refine ⟨?_, (H4.set (H.length + 2) .dead).set (H.length + 3) (.row 85 (spotCells (l.take 0) ++ [.int .u64 (s.1 : Int), iV s.2] ++ spotCells (l.drop 0)) false), .own (H.length + 3) 0 (0 + 1 + (l.length - 0)) 2, fun kn kx kr => ?_, ?_, fun i o h => ?_⟩
      rotate_left
      · skip
        unfold regB
        refine (zDreg_eq).trans ?_
        rw [← eH1]
        refine (zPD_v vMv_eq).trans ?_
        refine (zStepD_val rfl (slice_own_hi rfl rfl hj) rfl).trans ?_
        refine (zStepD_valR rfl (append_zeroO row83 rfl (.inl rfl) rfl hrow1 (by omega)) rfl spOk_nil).trans ?_
        refine (zLD_v (wLoad_loc rfl hs1 (by simp) rfl) rfl (spOk_apart rfl spOk_nil)).trans ?_
        refine (zStepD_new rfl rfl (buildOne row83 rfl rfl z85 (by decide)) rfl (spOk_bef (by decide) (spOk_apart (ap_rn (by omega)) spOk_nil))).trans ?_
        show zStepD E1 call B7 H.length _ _ _ _ _ (rep (H1.set (H.length + 1) (AO.row 85 [.int .u64 (s.1 : Int), iV s.2] false))) = _
        rw [← eH3]
        refine (zStepD_new rfl rfl (append_firstG (cs := [.int .u64 (s.1 : Int), iV s.2]) row83 rfl rfl gs3 rfl (by decide) (by decide)) rfl (spOk_bef (by decide) (spOk_bef (by decide) (spOk_bef (by decide) spOk_nil)))).trans ?_
        show zPD _ _ _ _ _ (rep (H3.set (H.length + 2) (AO.row 85 [.int .u64 (s.1 : Int), iV s.2] false))) = _
        rw [← eH4]
        refine (zPD_v vMv_eq).trans ?_
        refine (zStepD_val rfl (slice_own_lo rfl rfl hj) rfl).trans ?_
        refine (zStepD_app rfl rfl (append_nextO (n := 0 + 1) (cs0 := spotCells (l.take 0) ++ [.int .u64 (s.1 : Int), iV s.2]) row83 (rfl) g24 (by rw [List.length_append, htl]; simp; try omega) rfl gr4 (by omega) hjl (by omega)) rfl (spOk_bef (by decide) (spOk_bef (by decide) (spOk_bef (by decide) (spOk_bef (by decide) spOk_nil))))).trans ?_
        rw [hdrop]
        refine (zVD_v vMv_eq).trans ?_
        rfl
      · refine .inr ⟨by simp, H.length + 3, ?_, ?_⟩
        · simp [htlen]; omega
        · rw [hcat2]; exact List.getElem?_set_self (by simp; omega)
      · have := len_of h; exact get_set (get_set (old4 i o h) (by omega)) (by omega)
  · -- behind some
    obtain ⟨H2, eH2⟩ : ∃ H2, H2 = H1.set (H.length + 0) (AO.row 85 (spotCells (l.take j)) false) := ⟨_, rfl⟩
    have hl2 : H2.length = H.length + 4 := by rw [eH2]; simp [hlen]
    have old2 : ∀ (i : Nat) (o : AO), H[i]? = some o → H2[i]? = some o := fun i o h => by have := len_of h; rw [eH2]; exact get_set (old1 i o h) (by omega)
    have hs2 := old2 _ _ hs
    have gt2 : H2[H.length + 0]? = some (.row 85 (spotCells (l.take j)) false) := by rw [eH2]; exact List.getElem?_set_self (by omega)
    obtain ⟨H3, eH3⟩ : ∃ H3, H3 = H2.set (H.length + 1) (AO.row 85 [.int .u64 (s.1 : Int), iV s.2] false) := ⟨_, rfl⟩
    have hl3 : H3.length = H.length + 4 := by rw [eH3]; simp [hl2]
    have old3 : ∀ (i : Nat) (o : AO), H[i]? = some o → H3[i]? = some o := fun i o h => by have := len_of h; rw [eH3]; exact get_set (old2 i o h) (by omega)
    have gs3 : H3[H.length + 1]? = some (.row 85 [.int .u64 (s.1 : Int), iV s.2] false) := by rw [eH3]; exact List.getElem?_set_self (by omega)
    have gt3 : H3[H.length + 0]? = some (.row 85 (spotCells (l.take j)) false) := by rw [eH3]; exact get_set gt2 (by omega)
    obtain ⟨H4, eH4⟩ : ∃ H4, H4 = (H3.set (H.length + 0) .dead).set (H.length + 2) (AO.row 85 (spotCells (l.take j) ++ [.int .u64 (s.1 : Int), iV s.2]) false) := ⟨_, rfl⟩
    have hl4 : H4.length = H.length + 4 := by rw [eH4]; simp [hl3]
    have old4 : ∀ (i : Nat) (o : AO), H[i]? = some o → H4[i]? = some o := fun i o h => by have := len_of h; rw [eH4]; exact get_set (get_set (old3 i o h) (by omega)) (by omega)
    have g24 : H4[H.length + 2]? = some (.row 85 (spotCells (l.take j) ++ [.int .u64 (s.1 : Int), iV s.2]) false) := by rw [eH4]; exact List.getElem?_set_self (by simp; omega)
    have gr4 := old4 _ _ hrow
    by_cases hjl : l.length - j = 0
    · have hd0 : l.drop j = [] := List.drop_eq_nil_of_le (by omega)
      refine ⟨?_, H4, .own (H.length + 2) 0 (j + 1) 2, fun kn kx kr => ?_, ?_, old4⟩
      rotate_left
      · skip
        unfold regB
        refine (zDreg_eq).trans ?_
        rw [← eH1]
        refine (zPD_v vMv_eq).trans ?_
        refine (zStepD_val rfl (slice_own_hi rfl rfl hj) rfl).trans ?_
        refine (zStepD_new rfl rfl (append_firstO row83 rfl rfl hrow1 (by omega) hj0 (by omega)) rfl spOk_nil).trans ?_
        rw [htake]
        show zLD _ _ _ _ _ _ _ _ _ (rep (H1.set (H.length + 0) (AO.row 85 (spotCells (l.take j)) false))) = _
        rw [← eH2]
        refine (zLD_v (wLoad_loc rfl hs2 (by simp) rfl) rfl (spOk_apart (ap_ar (by omega)) spOk_nil)).trans ?_
        refine (zStepD_new rfl rfl (buildOne row83 rfl rfl z85 (by decide)) rfl (spOk_bef (by decide) (spOk_apart (ap_an (by omega) (by omega)) spOk_nil))).trans ?_
        show zStepD E1 call B7 H.length _ _ _ _ _ (rep (H2.set (H.length + 1) (AO.row 85 [.int .u64 (s.1 : Int), iV s.2] false))) = _
        rw [← eH3]
        refine (zStepD_app rfl rfl (append_nextG (cs := [.int .u64 (s.1 : Int), iV s.2]) (cs0 := spotCells (l.take j)) row83 rfl gt3 htl rfl gs3 rfl (by decide) (by omega)) rfl (spOk_bef (by decide) (spOk_bef (by decide) (spOk_bef (by decide) spOk_nil)))).trans ?_
        show zPD _ _ _ _ _ (rep ((H3.set (H.length + 0) .dead).set (H.length + 2) (AO.row 85 (spotCells (l.take j) ++ [.int .u64 (s.1 : Int), iV s.2]) false))) = _
        rw [← eH4]
        refine (zPD_v vMv_eq).trans ?_
        refine (zStepD_val rfl (slice_own_lo rfl rfl hj) rfl).trans ?_
        have hz : l.length - j = 0 := by omega
        rw [hz]
        refine (zStepD_valR rfl (append_zeroO row83 rfl (.inr ⟨_, _, _, _, rfl⟩) rfl gr4 (by omega)) rfl (spOk_bef (by decide) (spOk_bef (by decide) (spOk_bef (by decide) (spOk_bef (by decide) spOk_nil))))).trans ?_
        refine (zVD_v vMv_eq).trans ?_
        rfl
      · refine .inr ⟨by simp, H.length + 2, ?_, ?_⟩
        · simp [htlen, hd0]
        · rw [hcat2, hd0]; simpa [spotCells] using g24
    · refine ⟨?_, (H4.set (H.length + 2) .dead).set (H.length + 3) (.row 85 (spotCells (l.take j) ++ [.int .u64 (s.1 : Int), iV s.2] ++ spotCells (l.drop j)) false), .own (H.length + 3) 0 (j + 1 + (l.length - j)) 2, fun kn kx kr => ?_, ?_, fun i o h => ?_⟩
      rotate_left
      · skip
        unfold regB
        refine (zDreg_eq).trans ?_
        rw [← eH1]
        refine (zPD_v vMv_eq).trans ?_
        refine (zStepD_val rfl (slice_own_hi rfl rfl hj) rfl).trans ?_
        refine (zStepD_new rfl rfl (append_firstO row83 rfl rfl hrow1 (by omega) hj0 (by omega)) rfl spOk_nil).trans ?_
        rw [htake]
        show zLD _ _ _ _ _ _ _ _ _ (rep (H1.set (H.length + 0) (AO.row 85 (spotCells (l.take j)) false))) = _
        rw [← eH2]
        refine (zLD_v (wLoad_loc rfl hs2 (by simp) rfl) rfl (spOk_apart (ap_ar (by omega)) spOk_nil)).trans ?_
        refine (zStepD_new rfl rfl (buildOne row83 rfl rfl z85 (by decide)) rfl (spOk_bef (by decide) (spOk_apart (ap_an (by omega) (by omega)) spOk_nil))).trans ?_
        show zStepD E1 call B7 H.length _ _ _ _ _ (rep (H2.set (H.length + 1) (AO.row 85 [.int .u64 (s.1 : Int), iV s.2] false))) = _
        rw [← eH3]
        refine (zStepD_app rfl rfl (append_nextG (cs := [.int .u64 (s.1 : Int), iV s.2]) (cs0 := spotCells (l.take j)) row83 rfl gt3 htl rfl gs3 rfl (by decide) (by omega)) rfl (spOk_bef (by decide) (spOk_bef (by decide) (spOk_bef (by decide) spOk_nil)))).trans ?_
        show zPD _ _ _ _ _ (rep ((H3.set (H.length + 0) .dead).set (H.length + 2) (AO.row 85 (spotCells (l.take j) ++ [.int .u64 (s.1 : Int), iV s.2]) false))) = _
        rw [← eH4]
        refine (zPD_v vMv_eq).trans ?_
        refine (zStepD_val rfl (slice_own_lo rfl rfl hj) rfl).trans ?_
        refine (zStepD_app rfl rfl (append_nextO (n := j + 1) (cs0 := spotCells (l.take j) ++ [.int .u64 (s.1 : Int), iV s.2]) row83 rfl g24 (by rw [List.length_append, htl]; simp; try omega) rfl gr4 (by omega) hjl (by omega)) rfl (spOk_bef (by decide) (spOk_bef (by decide) (spOk_bef (by decide) (spOk_bef (by decide) spOk_nil))))).trans ?_
        rw [hdrop]
        refine (zVD_v vMv_eq).trans ?_
        rfl
      · refine .inr ⟨by simp, H.length + 3, ?_, ?_⟩
        · simp [htlen]; omega
        · rw [hcat2]; exact List.getElem?_set_self (by simp; omega)
      · have := len_of h; exact get_set (get_set (old4 i o h) (by omega)) (by omega)
end Go.Proofs.PxR2
