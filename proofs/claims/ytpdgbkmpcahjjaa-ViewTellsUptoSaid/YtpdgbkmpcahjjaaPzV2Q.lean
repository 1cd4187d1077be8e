/- Views: turned, set (walks by zauto). -/
import Derived.Test.YtpdgbkmpcahjjaaPzV2P
set_option linter.unusedVariables false
set_option linter.unusedSimpArgs false
set_option maxRecDepth 100000
namespace Go.Proofs.PxV2
open Go Go.Px Go.Proofs
section
variable {L V : List AV} {H : Heap} {K : SPK} {call : CallTT} {lt : Bool} {ix n0 r : Nat} {sp : List (Nat × Acc)} {bef : List Nat} {o : O} {f : Bool}
theorem dClone59 {B : List Cop} (h : gO L V o = .sl B.length (copC B) f) (hB : B ≠ []) (hl : B.length < 100000) (hs : spOk bef ix (Acc.none.add (some (n0 + r))) sp = true) :
  zStepD E1 call bef n0 ⟨.call 59 [o], .push, none, lt, ix, some r⟩ K sp L V (rep H) = K ((ix, Acc.none.add (some (n0 + r))) :: sp) (.own (n0 + r) 0 B.length 3 :: L) V (rep (H.set (n0 + r) (.row 59 (copC B) false))) := by
 rcases clone59 H B f hl with ⟨h1, _⟩ | ⟨_, hp, hq⟩
 ·exact absurd h1 hB
 ·have ev : evalFA E1 L V H (.call 59 [o]) = some (.call (.func 59) [.sl B.length (copC B) f], Acc.none) := by rw [← h]; rfl
  exact zStepD_toldN (r := r) (fo := ⟨.call 59 [o], .push, none, lt, ix, some r⟩) rfl rfl ev hp hq rfl hs
theorem dClone59n {B : List Cop} (h : gO L V o = .sl B.length (copC B) f) (hB : B = []) :
  zStepD E1 call bef n0 ⟨.call 59 [o], .push, none, lt, ix, some r⟩ K sp L V (rep H) = K sp (.sl 0 [] true :: L) V (rep H) := by
 rcases clone59 H B f (by rw [hB]; decide) with ⟨_, hp, hq⟩ | ⟨h1, _⟩
 ·have ev : evalFA E1 L V H (.call 59 [o]) = some (.call (.func 59) [.sl B.length (copC B) f], Acc.none) := by rw [← h]; rfl
  exact zStepD_toldV rfl ev hp hq rfl
 ·exact absurd hB h1
theorem dClone61 {B : List Mem} (h : gO L V o = .sl B.length (memC B) f) (hB : B ≠ []) (hl : B.length < 100000) (hs : spOk bef ix (Acc.none.add (some (n0 + r))) sp = true) :
  zStepD E1 call bef n0 ⟨.call 61 [o], .push, none, lt, ix, some r⟩ K sp L V (rep H) = K ((ix, Acc.none.add (some (n0 + r))) :: sp) (.own (n0 + r) 0 B.length 2 :: L) V (rep (H.set (n0 + r) (.row 55 (memC B) false))) := by
 rcases clone61 H B f hl with ⟨h1, _⟩ | ⟨_, hp, hq⟩
 ·exact absurd h1 hB
 ·have ev : evalFA E1 L V H (.call 61 [o]) = some (.call (.func 61) [.sl B.length (memC B) f], Acc.none) := by rw [← h]; rfl
  exact zStepD_toldN (r := r) (fo := ⟨.call 61 [o], .push, none, lt, ix, some r⟩) rfl rfl ev hp hq rfl hs
theorem dClone61n {B : List Mem} (h : gO L V o = .sl B.length (memC B) f) (hB : B = []) :
  zStepD E1 call bef n0 ⟨.call 61 [o], .push, none, lt, ix, some r⟩ K sp L V (rep H) = K sp (.sl 0 [] true :: L) V (rep H) := by
 rcases clone61 H B f (by rw [hB]; decide) with ⟨_, hp, hq⟩ | ⟨h1, _⟩
 ·have ev : evalFA E1 L V H (.call 61 [o]) = some (.call (.func 61) [.sl B.length (memC B) f], Acc.none) := by rw [← h]; rfl
  exact zStepD_toldV rfl ev hp hq rfl
 ·exact absurd hB h1
end
theorem fz_vi (w : VwT) (n : Int) (g : Nat → Option AO) : fzL (fzG E1 g fzDeep) [w.av, iV n] = some ([w.av, iV n], []) := rfl
def turnW (w : VwT) (n : Int) : VwT := if n < 0 ∨ n ≥ 4 then w else ⟨mergeM gT w.M [(n, 1)], w.C, false, w.C.isEmpty⟩
def IsW (v : AV) (M : List Mem) (C : List Cop) : Prop := ∃ f1 f2, v = (VwT.mk M C f1 f2).av
theorem c22 {k : Nat} (Y : YE) (T : TH) (w : VwT) (n : Int) (hk : 1000 ≤ k) (hw : OkV w) (hsm : SortedM w.M) :
  ∃ f1 f2, CY k Y (.func 22) [w.av, iV n] T = some ((VwT.mk (turnW w n).M (turnW w n).C f1 f2).av, T, ⟨[], [], false⟩) := by
 obtain ⟨k, rfl⟩ : ∃ j, k = j + 7 + 1 := ⟨k - 8, by omega⟩
 have := hw.m; have := hw.c
 unfold turnW
 by_cases hn : n < 0
 ·rw [if_pos (.inl hn)]
  refine ⟨w.fM, w.fC, call_go (zf := G22 E1) rfl rfl (fz_vi w n) (fun _ => rfl) ?_⟩
  unfold G22
  dsimp only
  refine zpR <| st (sV_new (ev_box rfl rfl ⟨_, rfl⟩)) <| st (sV_new (ev_alloc ⟨_, rfl, rfl⟩)) <| zpA <| zpR <| st (zP_v (vInt_eq fLss_ok rfl rfl (tLss (by omega)))) <| zpm rfl <| zpm rfl <| st (zP_v (vPick_t rfl)) <| zpt rfl <| zpR <| st (zL_v (wL_loc rfl rfl rfl rfl)) <| st (sN_put (ev_store rfl rfl rfl ⟨_, rfl, rfl⟩ rfl rfl)) <| st zRet_app ?_
  exact ends_cell rfl rfl ⟨_, rfl, Nat.le_refl _, rfl⟩ rfl
 by_cases hn4 : n ≥ 4
 ·rw [if_pos (.inr hn4)]
  refine ⟨w.fM, w.fC, call_go (zf := G22 E1) rfl rfl (fz_vi w n) (fun _ => rfl) ?_⟩
  unfold G22
  dsimp only
  refine zpR <| st (sV_new (ev_box rfl rfl ⟨_, rfl⟩)) <| st (sV_new (ev_alloc ⟨_, rfl, rfl⟩)) <| zpA <| zpR <| st (zP_v (vInt_eq fLss_ok rfl rfl (fLss' (by omega)))) <| zph rfl <| st (zP_v vMv_eq) <| zph rfl <| st (zP_v (vInt_eq (fGen_ok (by simp) (by simp)) rfl rfl (tGeq (by omega)))) <| st (zP_v (vPick_f rfl)) <| zpt rfl <| zpR <| st (zL_v (wL_loc rfl rfl rfl rfl)) <| st (sN_put (ev_store rfl rfl rfl ⟨_, rfl, rfl⟩ rfl rfl)) <| st zRet_app ?_
  exact ends_cell rfl rfl ⟨_, rfl, Nat.le_refl _, rfl⟩ rfl
 rw [if_neg (by omega)]
 obtain ⟨f1, h54, hs54⟩ := c54m (k := k + 2) [] (rep []) 58 gT rfl (fun T c d => g58 T c d) gT_key w.M [(n, 1)] w.fM false hsm (by simp; omega) (by simp; omega)
 refine ⟨f1, w.C.isEmpty, call_go (zf := G22 E1) rfl rfl (fz_vi w n) (fun _ => rfl) ?_⟩
 unfold G22
 dsimp only
 by_cases hC : w.C = []
 ·rw [show (VwT.mk (mergeM gT w.M [(n, 1)]) w.C f1 w.C.isEmpty).av = .agg [.sl (mergeM gT w.M [(n, 1)]).length (memC (mergeM gT w.M [(n, 1)])) f1, .sl 0 [] true] by rw [hC]; rfl]
  refine zpR <| st (sV_new (ev_box rfl rfl ⟨_, rfl⟩)) <| st (sV_new (ev_alloc ⟨_, rfl, rfl⟩)) <| zpA <| zpR <| st (zP_v (vInt_eq fLss_ok rfl rfl (fLss' (by omega)))) <| zph rfl <| st (zP_v vMv_eq) <| zph rfl <| st (zP_v (vInt_eq (fGen_ok (by simp) (by simp)) rfl rfl (fGeq' (by omega)))) <| st (zP_v (vPick_f rfl)) <| zpf rfl <| zpK <| zpR <| zpV <| zpA <| st zDreg_eq <| st (zPD_v (vFieldAddr_loc rfl)) <| st (zLD_v (wL_loc rfl rfl rfl rfl) rfl (by kernel_rfl)) <| st (dP_val (a := Acc.none) rfl rfl) <| st (dP_new rfl rfl (by kernel_rfl)) <| st (cP_acc rfl (call_fzN h54 rfl (fun _ => rfl) rfl rfl) rfl (by kernel_rfl)) <| st (zPD_v (vFieldAddr_loc rfl)) <| st (zLD_v (wL_loc rfl rfl rfl rfl) rfl (by kernel_rfl)) ?_
  refine st (dClone59n rfl hC) <| st (dP_val (a := Acc.none) rfl rfl) <| st (dN_put (ev_store rfl rfl rfl ⟨_, rfl, rfl⟩ rfl rfl) rfl (by kernel_rfl)) <| st zRet_app ?_
  exact ends_cell rfl rfl ⟨_, rfl, Nat.le_refl _, rfl⟩ rfl
 ·rw [show w.C.isEmpty = false by simpa using hC]
  refine zpR <| st (sV_new (ev_box rfl rfl ⟨_, rfl⟩)) <| st (sV_new (ev_alloc ⟨_, rfl, rfl⟩)) <| zpA <| zpR <| st (zP_v (vInt_eq fLss_ok rfl rfl (fLss' (by omega)))) <| zph rfl <| st (zP_v vMv_eq) <| zph rfl <| st (zP_v (vInt_eq (fGen_ok (by simp) (by simp)) rfl rfl (fGeq' (by omega)))) <| st (zP_v (vPick_f rfl)) <| zpf rfl <| zpK <| zpR <| zpV <| zpA <| st zDreg_eq <| st (zPD_v (vFieldAddr_loc rfl)) <| st (zLD_v (wL_loc rfl rfl rfl rfl) rfl (by kernel_rfl)) <| st (dP_val (a := Acc.none) rfl rfl) <| st (dP_new rfl rfl (by kernel_rfl)) <| st (cP_acc rfl (call_fzN h54 rfl (fun _ => rfl) rfl rfl) rfl (by kernel_rfl)) <| st (zPD_v (vFieldAddr_loc rfl)) <| st (zLD_v (wL_loc rfl rfl rfl rfl) rfl (by kernel_rfl)) ?_
  refine st (dClone59 rfl hC (by omega) (by kernel_rfl)) <| st (dP_val (a := Acc.none) rfl rfl) <| st (dN_put (ev_store rfl rfl rfl ⟨_, rfl, rfl⟩ rfl rfl) rfl (by kernel_rfl)) <| st zRet_app ?_
  exact ends_cellH rfl rfl ⟨_, rfl, Nat.le_refl _, rfl⟩ (fz_agg2 (k := 59) rfl (fzG_ownX (k := 58) rfl (copC_len _) (fzL_copC _ 57 _)))
end Go.Proofs.PxV2
