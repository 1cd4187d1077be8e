/- Views: the first ones; which are at the top (walks by zauto). -/
import Derived.Test.YtpdgbkmpcahjjaaPzV2M
set_option linter.unusedVariables false
set_option linter.unusedSimpArgs false
set_option maxRecDepth 100000
namespace Go.Proofs.PxV2
open Go Go.Px Go.Proofs
def clamp4 (n : Int) : Int := min (max n 1) 4
def firstL (i : Nat) : List Mem := (List.range i).map fun (i : Nat) => ((i : Int), 1)
def firstW (n : Int) : VwT := ⟨firstL (clamp4 n).toNat, [], false, true⟩
theorem firstL_len (i : Nat) : (firstL i).length = i := by simp [firstL]
theorem firstL_succ (i : Nat) : firstL (i + 1) = firstL i ++ [((i : Int), 1)] := by simp [firstL, List.range_succ]
theorem c14 {k : Nat} (Y : YE) (T : TH) (n : Int) (hn : I64 n) (hk : 20 ≤ k) : CY k Y (.func 14) [iV n] T = some ((firstW n).av, T, ⟨[], [], false⟩) := by
 obtain ⟨k, rfl⟩ : ∃ j, k = j + 1 + 1 + 1 + 1 + 1 + 1 + 1 := ⟨k - 7, by omega⟩
 refine call_go (zf := G14 E1) rfl rfl (fun _ => rfl) (fun _ => rfl) ?_
 unfold G14
 dsimp only
 have h4 : min (max n 1) 4 = 1 ∨ min (max n 1) 4 = 2 ∨ min (max n 1) 4 = 3 ∨ min (max n 1) 4 = 4 := by omega
 refine zpR <| st (sV_new (ev_alloc ⟨_, rfl, rfl⟩)) <| zpR <| st (sV_new (ev_alloc ⟨_, rfl, rfl⟩)) <| zpA <| zpR <| st (sP_val (ev_max rfl rfl)) <| st (sV_val (ev_min rfl rfl)) <| zpV <| st zBlock_app ?_
 rcases h4 with h | h | h | h <;> rw [h]
 ·rw [show firstW n = ⟨[(0, 1)], [], false, true⟩ by unfold firstW clamp4; rw [h]; rfl]
  exact endsB_ok (by kernel_rfl)
 ·rw [show firstW n = ⟨[(0, 1), (1, 1)], [], false, true⟩ by unfold firstW clamp4; rw [h]; rfl]
  exact endsB_ok (by kernel_rfl)
 ·rw [show firstW n = ⟨[(0, 1), (1, 1), (2, 1)], [], false, true⟩ by unfold firstW clamp4; rw [h]; rfl]
  exact endsB_ok (by kernel_rfl)
 ·rw [show firstW n = ⟨[(0, 1), (1, 1), (2, 1), (3, 1)], [], false, true⟩ by unfold firstW clamp4; rw [h]; rfl]
  exact endsB_ok (by kernel_rfl)
noncomputable def body15 (call : CallTT) : CZ := xbody15 E1 call
theorem loop15 {P : Ans → Prop} {call : CallTT} {kn : KB} {kx : Nat → KB} {kr : KB} (n : Int) (c : Nat) (hc : max 1 (min n 4) = (c : Int)) : ∀ (d i q : Nat) (L : List AV) (H : Heap) (v : AV), i + d = c → d < q → 1 < H.length → (∃ r, H[0]? = some (.row 25 r false) ∧ r.length = 2) → H[1]? = some (.row 25 [v, .sl 0 [] true] false) → OwnA 55 2 H v (memC (firstL i)) i → (∀ j, j < 2 → NotAt v j) →
  (∀ L H v i, (∃ r, H[0]? = some (.row 25 r false) ∧ r.length = 2) → H[1]? = some (.row 25 [v, .sl 0 [] true] false) → OwnA 55 2 H v (memC (firstL c)) c → (∀ j, j < 2 → NotAt v j) → P (kx 0 L [i, iV n, .loc 1 0, .loc 0 0] (rep H))) →
  P (zLoop q (body15 call) kn kx kr L [iV i, iV n, .loc 1 0, .loc 0 0] (rep H))
 | 0, i, q, L, H, v, hi, hq, hl, h0, h1, ho, hv, hk => by
  obtain ⟨q, rfl⟩ : ∃ q', q = q' + 1 := ⟨q - 1, by omega⟩
  obtain rfl : i = c := by omega
  refine st zLoop_one ?_
  unfold body15 xbody15
  refine zpA <| zpR <| st (sP_val (ev_min rfl rfl)) <| st (sP_val (ev_max rfl rfl)) <| st (zP_v (vInt_eq fLss_ok rfl rfl (fLss' (by omega)))) <| zpf rfl <| st zExit_app ?_
  exact hk _ _ _ _ h0 h1 ho hv
 | d + 1, i, q, L, H, v, hi, hq, hl, h0, h1, ho, hv, hk => by
  obtain ⟨q, rfl⟩ : ∃ q', q = q' + 1 := ⟨q - 1, by omega⟩
  refine st zLoop_one ?_
  unfold body15 xbody15
  refine zpA <| zpR <| st (sP_val (ev_min rfl rfl)) <| st (sP_val (ev_max rfl rfl)) <| st (zP_v (vInt_eq fLss_ok rfl rfl (tLss (by omega)))) <| zpt rfl <| zpK <| zpA <| st zBlock_app <| st zReg_eq <| st (zP_v (vFieldAddr_loc rfl)) <| st (zL_v (wL_loc rfl (by assumption) rfl rfl)) <| st (sP_val (a := Acc.none) rfl) <| st (sP_new rfl) ?_
  refine appW row22 rfl rfl get_last (by decide) rfl (ho.app _) (by omega) (fun H2 nm hr2 hf2 hl2 hn2 => ?_)
  refine st (zP_v (vFieldAddr_loc rfl)) <| st (sN_put (ev_store rfl rfl (hf2 _ _ (get_app h1) (hv 1 (by omega))) ⟨_, rfl, rfl⟩ rfl rfl)) <| st zReg_eq <| st (zP_v vMv_eq) <| st (zP_v (vInt_eq fAdd_ok rfl rfl (aAdd1 (by omega)))) <| zpV ?_
  exact loop15 n c hc d (i + 1) q _ _ _ (by omega) (by omega) (by simp at hl2 ⊢; omega) (by obtain ⟨r, h0, hr⟩ := h0; exact ⟨r, get_set (hf2 _ _ (get_app h0) (hv 0 (by omega))) (by decide), hr⟩) (get_self (hf2 _ _ (get_app h1) (hv 1 (by omega)))) (ownA_own (get_set (by rw [firstL_succ, memC_app]; exact hr2) (by simp at hn2; omega)) (by simp [memC_len, firstL_len]) (by omega)) (fun j hj => notAt_own (by simp at hn2; omega)) hk
theorem c15 {k : Nat} (Y : YE) (T : TH) (n : Int) (hn : I64 n) (hk : 20 ≤ k) : CY k Y (.func 15) [iV n] T = some ((firstW n).av, T, ⟨[], [], false⟩) := by
 obtain ⟨k, rfl⟩ : ∃ j, k = j + 1 := ⟨k - 1, by omega⟩
 refine call_go (zf := G15 E1) rfl rfl (fun _ => rfl) (fun _ => rfl) ?_
 unfold G15
 dsimp only
 obtain ⟨c, hc⟩ : ∃ c : Nat, max 1 (min n 4) = (c : Int) := ⟨(max 1 (min n 4)).toNat, by omega⟩
 refine zpR <| st (sV_new (ev_alloc ⟨_, rfl, rfl⟩)) <| zpR <| st (sP_val (a := Acc.none) rfl) <| st (sV_new (ev_alloc ⟨_, rfl, rfl⟩)) <| st (sN_put (ev_store rfl rfl rfl ⟨_, rfl, rfl⟩ rfl rfl)) <| zpA <| zpR <| zpV <| st zBlock_app ?_
 refine loop15 n c hc c 0 k _ _ (.sl 0 [] true) (by omega) (by omega) (Nat.le_of_ble_eq_true rfl) ⟨_, rfl, rfl⟩ rfl ownA_nil (fun j _ b off m s e => by cases e) (fun L H v i ⟨r, h0, hr⟩ h1 ho hv => ?_)
 obtain ⟨x, y, rfl⟩ : ∃ x y, r = [x, y] := by
  rcases r with _ | ⟨x, _ | ⟨y, _ | ⟨z, r⟩⟩⟩ <;> simp at hr
  exact ⟨x, y, rfl⟩
 obtain ⟨ns, hz⟩ := (ho.set (.row 25 [v, .sl 0 [] true] false) (hv 0 (by omega))).fzk (E := E1) (k := 58) (fun g => fzL_memC g 57 (firstL c))
 have e : firstW n = ⟨firstL c, [], false, true⟩ := by
  unfold firstW clamp4
  rw [show (min (max n 1) 4).toNat = c by omega]
 have e1 : ((firstW n).av) = .agg [.sl c (memC (firstL c)) (c == 0), .sl 0 [] true] := by
  rw [e]
  have : (c == 0) = false := by simp; omega
  simp [VwT.av, VwT.m, VwT.c, firstL_len, this, copC]
 rw [e1]
 refine st (ifZ_pos rfl) <| zpR <| st (zL_v (wL_loc rfl (by assumption) rfl rfl)) <| st (sN_put (ev_store rfl rfl (by assumption) ⟨_, rfl, rfl⟩ rfl rfl)) <| st zRet_app ?_
 exact ends_cell rfl (get_self h0) ⟨_, rfl, Nat.le_refl _, rfl⟩ (fz_agg2 (k := 59) hz rfl)
end Go.Proofs.PxV2
