/- Views: whether one is, the copies (walks by zauto). -/
import Derived.Test.YtpdgbkmpcahjjaaPzV2W
set_option linter.unusedVariables false
set_option linter.unusedSimpArgs false
set_option maxRecDepth 100000
namespace Go.Proofs.PxV2
open Go Go.Px Go.Proofs
theorem row57 : RowT E1 57 9 1 16 := ⟨⟨_, rfl, rfl⟩, ⟨_, rfl, rfl, rfl⟩, by decide, by decide⟩
def okC (x : Cop) : Bool := !(decide (x.1 = []) || decide (x.1.length > 8) || decide (x.2.1 = 0) || decide (x.2.2 < 1) || decide (x.2.2 > 3))
def keysL (C : List Cop) (i : Nat) : List (List Nat) := (C.take i).map (·.1)
theorem keysL_len {C : List Cop} {i : Nat} (h : i ≤ C.length) : (keysL C i).length = i := by simp [keysL, h]
theorem keysL_succ {C : List Cop} {i : Nat} {x : Cop} (h : C[i]? = some x) : keysL C (i + 1) = keysL C i ++ [x.1] := by
 unfold keysL
 rw [List.take_add_one, h]; simp
theorem strC_snoc (l : List (List Nat)) (x : List Nat) : strC (l ++ [x]) = strC l ++ [.str x] := by simp [strC]
theorem loop10C {P : Ans → Prop} {kn : KB} {kx : Nat → KB} {kr : KB} {call : CallTT} (w : VwT) (hl : w.C.length ≤ 100000000) (v2 v5 v6 : AV) :
  ∀ (d i q : Nat) (L : List AV) (H : Heap) (v10 vk : AV), i + d = w.C.length → d < q → H[0]? = some (.row 25 [w.m, w.c] false) → OwnA 9 1 H vk (strC (keysL w.C i)) i → NotAt vk 0 →
  ((w.C.drop i).all okC = true → ∀ L H i v10 vk, H[0]? = some (.row 25 [w.m, w.c] false) → OwnA 9 1 H vk (strC (keysL w.C w.C.length)) w.C.length → P (kx 2 L (V10 w v2 v5 v6 i (iV w.C.length) w.c v10 vk (.bool false)) (rep H))) → ((w.C.drop i).all okC = false → ∀ L H i v10 vk, H[0]? = some (.row 25 [w.m, w.c] false) → P (kr L (V10 w v2 v5 v6 i (iV w.C.length) w.c v10 vk (.bool false)) (rep H))) →
   P (zLoop q (body10C call) kn kx kr L (V10 w v2 v5 v6 (iV i) (iV w.C.length) w.c v10 vk (.bool false)) (rep H))
 | 0, i, q, L, H, v10, vk, hi, hq, h0, ho, hv, h1, h2 => by
  obtain ⟨q, rfl⟩ : ∃ q', q = q' + 1 := ⟨q - 1, by omega⟩
  obtain rfl : i = w.C.length := by omega
  refine st zLoop_one ?_
  unfold body10C xbody10C
  refine zpR <| st (zP_v (vInt_eq fLss_ok rfl rfl (fLss' (by omega)))) <| zpA <| zpf rfl <| st zExit_app ?_
  exact h1 (by simp) _ _ _ _ _ h0 ho
 | d + 1, i, q, L, H, v10, vk, hi, hq, h0, ho, hv, h1, h2 => by
  obtain ⟨q, rfl⟩ : ∃ q', q = q' + 1 := ⟨q - 1, by omega⟩
  obtain ⟨x, hx⟩ := get_some (l := w.C) (i := i) (by omega)
  have hcl := copC_len w.C
  have h0l := len_of h0
  rw [drop_at hx, List.all_cons] at h1 h2
  have bad : okC x = false → ∀ L H i v10 vk, H[0]? = some (.row 25 [w.m, w.c] false) → P (kr L (V10 w v2 v5 v6 i (iV w.C.length) w.c v10 vk (.bool false)) (rep H)) := fun e => h2 (by rw [e]; rfl)
  have hH : ((H ++ [AO.row 59 [.str [], .int .u64 0, .int .u64 0] false]).set H.length (.row 59 [.str x.1, .int .u64 (x.2.1 : Int), .int .u64 (x.2.2 : Int)] false))[0]? = some (.row 25 [w.m, w.c] false) := get_set (get_app h0) (by omega)
  refine st zLoop_one ?_
  unfold body10C xbody10C
  by_cases c1 : x.1 = []
  ·have e2 : binB E1 .eql 9 false true (.str x.1) (.str []) = some (.bool true) := by
    show some (AV.bool (x.1 == [])) = _
    rw [c1, beq_self_eq_true]
   refine zpR <| st (zP_v (vInt_eq fLss_ok rfl rfl (tLss (by omega)))) <| zpA <| zpt rfl <| zpK <| zpA <| st zBlock_app <| zpR <| st (zP_v (vIndexAddr_sl rfl rfl (by omega) (by omega))) ?_
   rw [cop_at hx]
   refine st (zL_v (wL_ref rfl rfl rfl)) <| st (sV_new (ev_alloc ⟨_, rfl, rfl⟩)) <| st (sN_put (ev_store rfl rfl get_last ⟨_, rfl, rfl⟩ rfl rfl)) <| zpA <| zpR <| st (zP_v (vFieldAddr_loc rfl)) <| st (zL_v (wL_loc rfl (get_self get_last) rfl rfl)) <| st (zP_v (vInt_bin rfl rfl e2)) <| zpm rfl <| zpm rfl <| zpm rfl <| zpm rfl <| st (zP_v (vPick_t rfl)) <| zpm rfl <| zpm rfl <| zpm rfl <| st (zP_v (vPick_t rfl)) <| zpm rfl <| zpm rfl <| zpm rfl <| st (zP_v (vPick_t rfl)) <| zpm rfl <| zpm rfl <| zpm rfl ?_
   refine st (zP_v (vPick_t rfl)) <| zpt rfl <| zpR <| zpV <| st zRet_app ?_
   exact bad (by simp [okC, c1]) _ _ _ _ _ hH
  by_cases c2 : x.1.length > 8
  ·refine zpR <| st (zP_v (vInt_eq fLss_ok rfl rfl (tLss (by omega)))) <| zpA <| zpt rfl <| zpK <| zpA <| st zBlock_app <| zpR <| st (zP_v (vIndexAddr_sl rfl rfl (by omega) (by omega))) ?_
   rw [cop_at hx]
   refine st (zL_v (wL_ref rfl rfl rfl)) <| st (sV_new (ev_alloc ⟨_, rfl, rfl⟩)) <| st (sN_put (ev_store rfl rfl get_last ⟨_, rfl, rfl⟩ rfl rfl)) <| zpA <| zpR <| st (zP_v (vFieldAddr_loc rfl)) <| st (zL_v (wL_loc rfl (get_self get_last) rfl rfl)) <| st (zP_v (vInt_bin rfl rfl (seqF c1))) <| zph rfl <| st (zP_v (vFieldAddr_loc rfl)) <| zph rfl <| st (zL_v (wL_loc rfl (get_self get_last) rfl rfl)) <| zph rfl <| st (zP_v (vLenS_eq rfl)) <| zph rfl <| st (zP_v (vInt_eq fGtr_ok rfl rfl (tGtr (by omega)))) <| st (zP_v (vPick_f rfl)) <| zpm rfl <| zpm rfl <| zpm rfl <| st (zP_v (vPick_t rfl)) <| zpm rfl <| zpm rfl <| zpm rfl ?_
   refine st (zP_v (vPick_t rfl)) <| zpm rfl <| zpm rfl <| zpm rfl <| st (zP_v (vPick_t rfl)) <| zpt rfl <| zpR <| zpV <| st zRet_app ?_
   exact bad (by simp [okC, c2]) _ _ _ _ _ hH
  by_cases c3 : x.2.1 = 0
  ·refine zpR <| st (zP_v (vInt_eq fLss_ok rfl rfl (tLss (by omega)))) <| zpA <| zpt rfl <| zpK <| zpA <| st zBlock_app <| zpR <| st (zP_v (vIndexAddr_sl rfl rfl (by omega) (by omega))) ?_
   rw [cop_at hx]
   refine st (zL_v (wL_ref rfl rfl rfl)) <| st (sV_new (ev_alloc ⟨_, rfl, rfl⟩)) <| st (sN_put (ev_store rfl rfl get_last ⟨_, rfl, rfl⟩ rfl rfl)) <| zpA <| zpR <| st (zP_v (vFieldAddr_loc rfl)) <| st (zL_v (wL_loc rfl (get_self get_last) rfl rfl)) <| st (zP_v (vInt_bin rfl rfl (seqF c1))) <| zph rfl <| st (zP_v (vFieldAddr_loc rfl)) <| zph rfl <| st (zL_v (wL_loc rfl (get_self get_last) rfl rfl)) <| zph rfl <| st (zP_v (vLenS_eq rfl)) <| zph rfl <| st (zP_v (vInt_eq fGtr_ok rfl rfl (fGtr' (by omega)))) <| st (zP_v (vPick_f rfl)) <| zph rfl <| st (zP_v (vFieldAddr_loc rfl)) <| zph rfl <| st (zL_v (wL_loc rfl (get_self get_last) rfl rfl)) <| zph rfl <| st (zP_v (vInt_eq fEql_ok rfl rfl (tEql (by omega)))) <| st (zP_v (vPick_f rfl)) ?_
   refine zpm rfl <| zpm rfl <| zpm rfl <| st (zP_v (vPick_t rfl)) <| zpm rfl <| zpm rfl <| zpm rfl <| st (zP_v (vPick_t rfl)) <| zpt rfl <| zpR <| zpV <| st zRet_app ?_
   exact bad (by simp [okC, c3]) _ _ _ _ _ hH
  by_cases c4 : x.2.2 < 1
  ·refine zpR <| st (zP_v (vInt_eq fLss_ok rfl rfl (tLss (by omega)))) <| zpA <| zpt rfl <| zpK <| zpA <| st zBlock_app <| zpR <| st (zP_v (vIndexAddr_sl rfl rfl (by omega) (by omega))) ?_
   rw [cop_at hx]
   refine st (zL_v (wL_ref rfl rfl rfl)) <| st (sV_new (ev_alloc ⟨_, rfl, rfl⟩)) <| st (sN_put (ev_store rfl rfl get_last ⟨_, rfl, rfl⟩ rfl rfl)) <| zpA <| zpR <| st (zP_v (vFieldAddr_loc rfl)) <| st (zL_v (wL_loc rfl (get_self get_last) rfl rfl)) <| st (zP_v (vInt_bin rfl rfl (seqF c1))) <| zph rfl <| st (zP_v (vFieldAddr_loc rfl)) <| zph rfl <| st (zL_v (wL_loc rfl (get_self get_last) rfl rfl)) <| zph rfl <| st (zP_v (vLenS_eq rfl)) <| zph rfl <| st (zP_v (vInt_eq fGtr_ok rfl rfl (fGtr' (by omega)))) <| st (zP_v (vPick_f rfl)) <| zph rfl <| st (zP_v (vFieldAddr_loc rfl)) <| zph rfl <| st (zL_v (wL_loc rfl (get_self get_last) rfl rfl)) <| zph rfl <| st (zP_v (vInt_eq fEql_ok rfl rfl (fEql' (by omega)))) <| st (zP_v (vPick_f rfl)) ?_
   refine zph rfl <| st (zP_v (vFieldAddr_loc rfl)) <| zph rfl <| st (zL_v (wL_loc rfl (get_self get_last) rfl rfl)) <| zph rfl <| st (zP_v (vInt_eq fLss_ok rfl rfl (tLss (by omega)))) <| st (zP_v (vPick_f rfl)) <| zpm rfl <| zpm rfl <| zpm rfl <| st (zP_v (vPick_t rfl)) <| zpt rfl <| zpR <| zpV <| st zRet_app ?_
   exact bad (by simp [okC, c4]) _ _ _ _ _ hH
  by_cases c5 : x.2.2 > 3
  ·refine zpR <| st (zP_v (vInt_eq fLss_ok rfl rfl (tLss (by omega)))) <| zpA <| zpt rfl <| zpK <| zpA <| st zBlock_app <| zpR <| st (zP_v (vIndexAddr_sl rfl rfl (by omega) (by omega))) ?_
   rw [cop_at hx]
   refine st (zL_v (wL_ref rfl rfl rfl)) <| st (sV_new (ev_alloc ⟨_, rfl, rfl⟩)) <| st (sN_put (ev_store rfl rfl get_last ⟨_, rfl, rfl⟩ rfl rfl)) <| zpA <| zpR <| st (zP_v (vFieldAddr_loc rfl)) <| st (zL_v (wL_loc rfl (get_self get_last) rfl rfl)) <| st (zP_v (vInt_bin rfl rfl (seqF c1))) <| zph rfl <| st (zP_v (vFieldAddr_loc rfl)) <| zph rfl <| st (zL_v (wL_loc rfl (get_self get_last) rfl rfl)) <| zph rfl <| st (zP_v (vLenS_eq rfl)) <| zph rfl <| st (zP_v (vInt_eq fGtr_ok rfl rfl (fGtr' (by omega)))) <| st (zP_v (vPick_f rfl)) <| zph rfl <| st (zP_v (vFieldAddr_loc rfl)) <| zph rfl <| st (zL_v (wL_loc rfl (get_self get_last) rfl rfl)) <| zph rfl <| st (zP_v (vInt_eq fEql_ok rfl rfl (fEql' (by omega)))) <| st (zP_v (vPick_f rfl)) ?_
   refine zph rfl <| st (zP_v (vFieldAddr_loc rfl)) <| zph rfl <| st (zL_v (wL_loc rfl (get_self get_last) rfl rfl)) <| zph rfl <| st (zP_v (vInt_eq fLss_ok rfl rfl (fLss' (by omega)))) <| st (zP_v (vPick_f rfl)) <| zph rfl <| st (zP_v (vFieldAddr_loc rfl)) <| zph rfl <| st (zL_v (wL_loc rfl (get_self get_last) rfl rfl)) <| zph rfl <| st (zP_v (vInt_eq fGtr_ok rfl rfl (tGtr (by omega)))) <| st (zP_v (vPick_f rfl)) <| zpt rfl <| zpR <| zpV <| st zRet_app ?_
   exact bad (by simp [okC, c5]) _ _ _ _ _ hH
  have e : okC x = true := by simp [okC, c1, c2, c3]; omega
  rw [e] at h1 h2
  have hk := keysL_len (C := w.C) (i := i) (by omega)
  refine zpR <| st (zP_v (vInt_eq fLss_ok rfl rfl (tLss (by omega)))) <| zpA <| zpt rfl <| zpK <| zpA <| st zBlock_app <| zpR <| st (zP_v (vIndexAddr_sl rfl rfl (by omega) (by omega))) ?_
  rw [cop_at hx]
  refine st (zL_v (wL_ref rfl rfl rfl)) <| st (sV_new (ev_alloc ⟨_, rfl, rfl⟩)) <| st (sN_put (ev_store rfl rfl get_last ⟨_, rfl, rfl⟩ rfl rfl)) <| zpA <| zpR <| st (zP_v (vFieldAddr_loc rfl)) <| st (zL_v (wL_loc rfl (get_self get_last) rfl rfl)) <| st (zP_v (vInt_bin rfl rfl (seqF c1))) <| zph rfl <| st (zP_v (vFieldAddr_loc rfl)) <| zph rfl <| st (zL_v (wL_loc rfl (get_self get_last) rfl rfl)) <| zph rfl <| st (zP_v (vLenS_eq rfl)) <| zph rfl <| st (zP_v (vInt_eq fGtr_ok rfl rfl (fGtr' (by omega)))) <| st (zP_v (vPick_f rfl)) <| zph rfl <| st (zP_v (vFieldAddr_loc rfl)) <| zph rfl <| st (zL_v (wL_loc rfl (get_self get_last) rfl rfl)) <| zph rfl <| st (zP_v (vInt_eq fEql_ok rfl rfl (fEql' (by omega)))) <| st (zP_v (vPick_f rfl)) ?_
  refine zph rfl <| st (zP_v (vFieldAddr_loc rfl)) <| zph rfl <| st (zL_v (wL_loc rfl (get_self get_last) rfl rfl)) <| zph rfl <| st (zP_v (vInt_eq fLss_ok rfl rfl (fLss' (by omega)))) <| st (zP_v (vPick_f rfl)) <| zph rfl <| st (zP_v (vFieldAddr_loc rfl)) <| zph rfl <| st (zL_v (wL_loc rfl (get_self get_last) rfl rfl)) <| zph rfl <| st (zP_v (vInt_eq fGtr_ok rfl rfl (fGtr' (by omega)))) <| st (zP_v (vPick_f rfl)) <| zpf rfl <| zpK <| st zReg_eq <| st (zP_v vMv_eq) <| st (zP_v (vFieldAddr_loc rfl)) <| st (zL_v (wL_loc rfl (get_self get_last) rfl rfl)) <| st (sP_new rfl) ?_
  refine appW row57 rfl rfl get_last (by decide) rfl (((ho.app _).set _ (ho.lt (Nat.le_refl _))).app _) (by omega) (fun H2 nm hr2 hf2 hl2 hn2 => ?_)
  refine zpV <| st zReg_eq <| st (zP_v (vInt_eq fAdd_ok rfl rfl (aAdd1 (by omega)))) <| zpV ?_
  exact loop10C w hl v2 v5 v6 d (i + 1) q _ _ _ _ (by omega) (by omega) (hf2 _ _ (get_app hH) hv) (ownA_own (by rw [keysL_succ hx, strC_snoc]; exact hr2) (by rw [strC_len, keysL_len (by omega)]; omega) (by omega)) (notAt_own (by simp at hn2; omega)) h1 h2
def isW (w : VwT) : Bool := goodN (badM w.M) 0 w.M.length && (w.C.all okC && (risesT (w.C.map (·.1)) && decide (w.C.length ≤ 40)))
theorem fzL_strC (g : Nat → Option AO) (k : Nat) : ∀ (l : List (List Nat)), fzL (fzG E1 g (k + 1)) (strC l) = some (strC l, [])
 | [] => rfl
 | s :: l => by
  have ih := fzL_strC g k l
  simp only [strC] at ih
  simp only [strC, List.map_cons, fzL, Option.bind_eq_bind, ih]
  rfl
theorem c10 {k : Nat} (Y : YE) (T : TH) (w : VwT) (hk : w.M.length + w.C.length + 20 ≤ k) (hm : w.M.length ≤ 9223372036854775807) (hc : w.C.length ≤ 100000000) : CY k Y (.func 10) [w.av] T = some (.bool (isW w), T, ⟨[], [], false⟩) := by
 obtain ⟨k, rfl⟩ : ∃ j, k = j + 3 + 1 := ⟨k - 4, by omega⟩
 refine call_go (zf := G10 E1) rfl rfl (fz_v1 w) (fun _ => rfl) ?_
 unfold G10
 dsimp only
 refine zpR <| st (sV_new (ev_box rfl rfl ⟨_, rfl⟩)) <| zpV <| zpA <| zpR <| st (zP_v (vFieldAddr_loc rfl)) <| st (wV_load (wL_loc rfl rfl rfl rfl)) <| st (zV_v (vLenL_sl rfl)) <| zpV <| st zBlock_app ?_
 refine loop10M w hm (by omega) _ _ _ _ _ w.M.length 0 (k + 3) _ _ _ _ (by omega) (by omega) rfl (fun e L H i v5 v6 h0 => ?_) (fun e L H i v5 v6 h0 => ?_)
 ·refine st (ifZ_pos rfl) <| zpR <| zpV <| zpA <| zpR <| st (zP_v (vFieldAddr_loc rfl)) <| st (wV_load (wL_loc rfl (by assumption) rfl rfl)) <| st (zV_v (vLenL_sl rfl)) <| zpV <| st zBlock_app ?_
  refine loop10C w hc _ _ _ w.C.length 0 (k + 3) _ _ _ _ (by omega) (by omega) h0 ownA_nil notAt_sl (fun e2 L H i v10 vk h0 ho => ?_) (fun e2 L H i v10 vk h0 => ?_)
  ·rw [List.drop_zero] at e2
   have hkl : keysL w.C w.C.length = w.C.map (·.1) := by simp [keysL]
   have hkn : (keysL w.C w.C.length).length = w.C.length := keysL_len (Nat.le_refl _)
   have h46 := c46 (k := k) [] (rep H) (keysL w.C w.C.length) (w.C.length == 0) (by omega) (by omega)
   obtain ⟨ns, hz⟩ := ho.fzk (E := E1) (k := 59) (fun g => fzL_strC g 58 _)
   have h46b : CY (k + 3) [] (.func 46) [vk] (rep H) = some (.bool (risesT (w.C.map (·.1))), rep H, ⟨ns ++ [] ++ (ns ++ []), [], false⟩) := by
    rw [hkl] at h46 hz
    rw [show (w.C.map (·.1)).length = w.C.length by simp] at h46
    refine call_fzF (fargs := [.sl w.C.length (strC (w.C.map (·.1))) (w.C.length == 0)]) (ns := ns ++ []) h46 rfl (fun _ => rfl) ?_ rfl
    rw [show (rep H).get = fun i => H[i]? from funext (rep_get _)] at hz
    show (do let (y, ns) ← fzG E1 (fun i => H[i]?) 60 _; let (xs, ms) ← fzL (fzG E1 (fun i => H[i]?) 60) []; return (y :: xs, ns ++ ms)) = _
    rw [hz]; rfl
   have hlen : ∃ a b d : Nat, vk = .own a b w.C.length d ∨ (w.C.length = 0 ∧ vk = .sl 0 [] true) := by
    rcases ho.2 with ⟨h1, h2⟩ | ⟨h1, nm, h2, h3⟩
    ·exact ⟨0, 0, 0, .inr ⟨h1, h2⟩⟩
    ·exact ⟨nm, 0, 1, .inl h2⟩
   have hr : isW w = (risesT (w.C.map (·.1)) && decide (w.C.length ≤ 40)) := by
    unfold isW
    rw [e, e2]; rfl
   rw [hr]
   cases hR : risesT (w.C.map (·.1)) with
   | false =>
    rw [hR] at h46b
    refine st (ifZ_pos rfl) <| zpR <| st (cP_call rfl h46b) <| zpm rfl <| zpm rfl <| zpm rfl <| st (zP_v (vPick_f rfl)) <| zpV <| st zRet_app ?_
    exact ends_tmp rfl
   | true =>
    rw [hR] at h46b
    by_cases h40 : w.C.length ≤ 40
    ·rw [show (true && decide (w.C.length ≤ 40)) = true by simp [h40]]
     obtain ⟨a, b, d, rfl | ⟨h1, rfl⟩⟩ := hlen
     ·refine st (ifZ_pos rfl) <| zpR <| st (cP_call rfl h46b) <| zph rfl <| st (zP_v vMv_eq) <| zph rfl <| st (zP_v (vLenL_own rfl)) <| zph rfl <| st (zP_v (vInt_eq (fGen_ok (by simp) (by simp)) rfl rfl (tLeq (by omega)))) <| st (zP_v (vPick_t rfl)) <| zpV <| st zRet_app ?_
      exact ends_tmp rfl
     ·refine st (ifZ_pos rfl) <| zpR <| st (cP_call rfl h46b) <| zph rfl <| st (zP_v vMv_eq) <| zph rfl <| st (zP_v (vLenL_sl rfl)) <| zph rfl <| st (zP_v (vInt_eq (fGen_ok (by simp) (by simp)) rfl rfl (tLeq (by omega)))) <| st (zP_v (vPick_t rfl)) <| zpV <| st zRet_app ?_
      exact ends_tmp rfl
    ·rw [show (true && decide (w.C.length ≤ 40)) = false by simp [h40]]
     obtain ⟨a, b, d, rfl | ⟨h1, rfl⟩⟩ := hlen
     ·refine st (ifZ_pos rfl) <| zpR <| st (cP_call rfl h46b) <| zph rfl <| st (zP_v vMv_eq) <| zph rfl <| st (zP_v (vLenL_own rfl)) <| zph rfl <| st (zP_v (vInt_eq (fGen_ok (by simp) (by simp)) rfl rfl (fLeq' (by omega)))) <| st (zP_v (vPick_t rfl)) <| zpV <| st zRet_app ?_
      exact ends_tmp rfl
     ·exact absurd h1 (by omega)
  ·rw [List.drop_zero] at e2
   rw [show isW w = false by unfold isW; rw [e, e2]; rfl]
   exact ends_tmp rfl
 ·rw [show isW w = false by unfold isW; rw [e]; rfl]
  exact ends_tmp rfl
end Go.Proofs.PxV2
