/- Views: joined, turned, set by the reference (walks by zauto). -/
import Derived.Test.YtpdgbkmpcahjjaaPzV2S
set_option linter.unusedVariables false
set_option linter.unusedSimpArgs false
set_option maxRecDepth 100000
namespace Go.Proofs.PxV2
open Go Go.Px Go.Proofs
theorem joined18 (k : Nat) (a b : VwT) (hk : 1000 ≤ k) (hb1 : b.M.length ≤ 40) (hb2 : b.C.length ≤ 40) (L : List AV) (H : Heap) (rr : List AV) (hrr : rr.length = 2) (vM vC : AV) (h1 : H[1]? = some (.row 25 [b.m, b.c] false)) (h2 : H[2]? = some (.row 25 rr false)) (h5 : H[5]? = some (.row 25 [vM, vC] false)) (hM : StM H vM a.M) (hC : StC H vC a.C) (hMl : a.M.length ≤ 40) (hCl : a.C.length ≤ 40) (v6 : AV) (kn kn0 : KB) (kx : Nat → KB) :
  EndsW (mergeM gM a.M b.M) ((mergeC gJ a.C b.C).take 40) (zLoop k (body18M (CY k [])) kn0 (fun i L V H => ifZ (Nat.beq i 0) (((zSeq (zSeq (zReg fun k => (zV 6 (vMv (.k (.int .i64 0)))) k)
 (zBlock 2 (zLoop k (body18C (CY k [])))))
 (zSeq (zReg fun k' => (zP (vFieldAddr 1 (.v 5))) ((zL 1 false (.l 0)) ((zP (vFieldAddr 1 (.v 5))) ((zL 1 false (.l 0)) ((zP (vLenL (.l 0))) ((zStep E1 (CY k []) ⟨.most false [(.l 0), (.k (.int .i64 40))], .push, none, false, 5, none⟩) ((zStep E1 (CY k []) ⟨.slice 23 (.l 4) none (some (.l 0)) none, .push, none, false, 6, none⟩) ((zP (vFieldAddr 1 (.v 5))) ((zStep E1 (CY k []) ⟨.store 23 (.l 0) (.l 1), .none, none, false, 8, none⟩) k')))))))))
 (zSeq (zReg fun k' => (zL 2 true (.v 5)) ((zStep E1 (CY k []) ⟨.store 25 (.v 7) (.l 0), .none, none, false, 1, none⟩) k'))
 zRet))) kn kx (finZ E1 [.cell (.v 7) 25])) L V H) (kx i L V H)) (finZ E1 [.cell (.v 7) 25]) L [a.av, b.av, .loc 0 0, iV (0 : Nat), .loc 1 0, .loc 5 0, v6, .loc 2 0] (rep H)) := by
 refine loop18M a b _ _ hb1 hk b.M.length 0 k _ _ vM a.M (by omega) (by omega) h1 h5 hM (by omega) (fun L H' v' i' g1 g5 g2 g4 hM' => ?_)
 rw [List.drop_zero] at hM'
 have gC : StC H' vC a.C := by
  rcases hC with h | ⟨h, fr, h4⟩
  ·exact .inl h
  ·exact .inr ⟨h, fr, by rw [g4]; exact h4⟩
 refine st (ifZ_pos rfl) <| zpA <| zpR <| zpV <| st zBlock_app ?_
 refine loop18C a b _ _ hb2 hk b.C.length 0 k _ _ vC a.C (by omega) (by omega) g1 g5 gC (by omega) (fun L H2 v2 i2 k1 k5 k2 k3 kC => ?_)
 rw [List.drop_zero] at kC
 have kM : StM H2 v' (mergeM gM a.M b.M) := by
  rcases hM' with h | ⟨h, fr, h4⟩
  ·exact .inl h
  ·exact .inr ⟨h, fr, by rw [k3]; exact h4⟩
 have := mergeC_len gJ b.C a.C
 refine st (ifZ_pos rfl) ?_
 exact end18 a b _ _ _ H2 _ _ _ _ rr hrr (by omega) (by rw [k2, g2, h2]) k5 kM kC
set_option maxHeartbeats 2000000 in
theorem c18 {k : Nat} (Y : YE) (T : TH) (a b : VwT) (hk : 1001 ≤ k) (hb1 : b.M.length ≤ 40) (hb2 : b.C.length ≤ 40) (ha1 : a.M.length ≤ 40) (ha2 : a.C.length ≤ 40) :
  ∃ f1 f2, CY k Y (.func 18) [a.av, b.av] T = some ((VwT.mk (mergeM gM a.M b.M) ((mergeC gJ a.C b.C).take 40) f1 f2).av, T, ⟨[], [], false⟩) := by
 obtain ⟨k, rfl⟩ : ∃ j, k = j + 1 := ⟨k - 1, by omega⟩
 have main : EndsW (mergeM gM a.M b.M) ((mergeC gJ a.C b.C).take 40) ((G18 E1).z (CY k) [] k (finZ E1 (G18 E1).res) (fun _ _ _ _ => none) (finZ E1 (G18 E1).res) [] [a.av, b.av, .undef, .undef, .undef, .undef, .undef, .undef] (rep [])) := by
  have hlM := memC_len a.M
  have hlC := copC_len a.C
  by_cases hM : a.M = [] <;> by_cases hC : a.C = []
  ·obtain ⟨aM, aC, f1, f2⟩ := a
   dsimp only at hM hC ha1 ha2 hlM hlC
   subst hM
   subst hC
   unfold G18
   dsimp only
   refine zpR <| st (sV_new (ev_box rfl rfl ⟨_, rfl⟩)) <| st (sV_new (ev_box rfl rfl ⟨_, rfl⟩)) <| st (sV_new (ev_alloc ⟨_, rfl, rfl⟩)) <| zpA <| st zDreg_eq <| st (zPD_v (vFieldAddr_loc rfl)) <| st (zLD_v (wL_loc rfl rfl rfl rfl) rfl (by kernel_rfl)) <| st (dP_val rfl rfl) <| st (zPD_v (vFieldAddr_loc rfl)) <| st (zLD_v (wL_loc rfl rfl rfl rfl) rfl (by kernel_rfl)) <| st (dP_val rfl rfl) <| st (dP_val (a := Acc.none) rfl rfl) <| st (dV_new (ev_alloc ⟨_, rfl, rfl⟩) rfl (by kernel_rfl)) <| st (dN_put (ev_store rfl rfl rfl ⟨_, rfl, rfl⟩ rfl rfl) rfl (by kernel_rfl)) <| zpA <| zpR <| zpV <| st zBlock_app ?_
   exact joined18 k ⟨[], [], f1, f2⟩ b (by omega) hb1 hb2 _ _ [.sl 0 [] true, .sl 0 [] true] rfl (.sl 0 [] true) (.sl 0 [] true) rfl rfl rfl (.inl ⟨true, rfl⟩) (.inl ⟨true, rfl⟩) (by simp; try omega) (by simp; try omega) _ _ _ _
  ·obtain ⟨aM, aC, f1, f2⟩ := a
   dsimp only at hM hC ha1 ha2 hlM hlC
   subst hM
   unfold G18
   dsimp only
   refine zpR <| st (sV_new (ev_box rfl rfl ⟨_, rfl⟩)) <| st (sV_new (ev_box rfl rfl ⟨_, rfl⟩)) <| st (sV_new (ev_alloc ⟨_, rfl, rfl⟩)) <| zpA <| st zDreg_eq <| st (zPD_v (vFieldAddr_loc rfl)) <| st (zLD_v (wL_loc rfl rfl rfl rfl) rfl (by kernel_rfl)) <| st (dP_val rfl rfl) <| st (zPD_v (vFieldAddr_loc rfl)) <| st (zLD_v (wL_loc rfl rfl rfl rfl) rfl (by kernel_rfl)) <| st (dP_new (append_firstS (k := aC.length) row23 rfl rfl hlC (fun e => hC (List.eq_nil_of_length_eq_zero e)) (by omega)) rfl (by kernel_rfl)) <| st (dP_val (a := Acc.none) rfl rfl) <| st (dV_new (ev_alloc ⟨_, rfl, rfl⟩) rfl (by kernel_rfl)) <| st (dN_put (ev_store rfl rfl rfl ⟨_, rfl, rfl⟩ rfl rfl) rfl (by kernel_rfl)) <| zpA <| zpR <| zpV <| st zBlock_app ?_
   exact joined18 k ⟨[], aC, f1, f2⟩ b (by omega) hb1 hb2 _ _ [.sl 0 [] true, .sl 0 [] true] rfl (.sl 0 [] true) (.own 4 0 aC.length 3) rfl rfl rfl (.inl ⟨true, rfl⟩) (.inr ⟨rfl, false, rfl⟩) (by simp; try omega) (by simp; try omega) _ _ _ _
  ·obtain ⟨aM, aC, f1, f2⟩ := a
   dsimp only at hM hC ha1 ha2 hlM hlC
   subst hC
   unfold G18
   dsimp only
   refine zpR <| st (sV_new (ev_box rfl rfl ⟨_, rfl⟩)) <| st (sV_new (ev_box rfl rfl ⟨_, rfl⟩)) <| st (sV_new (ev_alloc ⟨_, rfl, rfl⟩)) <| zpA <| st zDreg_eq <| st (zPD_v (vFieldAddr_loc rfl)) <| st (zLD_v (wL_loc rfl rfl rfl rfl) rfl (by kernel_rfl)) <| st (dP_new (append_firstS (k := aM.length) row22 rfl rfl hlM (fun e => hM (List.eq_nil_of_length_eq_zero e)) (by omega)) rfl (by kernel_rfl)) <| st (zPD_v (vFieldAddr_loc rfl)) <| st (zLD_v (wL_loc rfl rfl rfl rfl) rfl (by kernel_rfl)) <| st (dP_val rfl rfl) <| st (dP_val (a := Acc.none) rfl rfl) <| st (dV_new (ev_alloc ⟨_, rfl, rfl⟩) rfl (by kernel_rfl)) <| st (dN_put (ev_store rfl rfl rfl ⟨_, rfl, rfl⟩ rfl rfl) rfl (by kernel_rfl)) <| zpA <| zpR <| zpV <| st zBlock_app ?_
   exact joined18 k ⟨aM, [], f1, f2⟩ b (by omega) hb1 hb2 _ _ [.sl 0 [] true, .sl 0 [] true] rfl (.own 3 0 aM.length 2) (.sl 0 [] true) rfl rfl rfl (.inr ⟨rfl, false, rfl⟩) (.inl ⟨true, rfl⟩) (by simp; try omega) (by simp; try omega) _ _ _ _
  ·obtain ⟨aM, aC, f1, f2⟩ := a
   dsimp only at hM hC ha1 ha2 hlM hlC
   unfold G18
   dsimp only
   refine zpR <| st (sV_new (ev_box rfl rfl ⟨_, rfl⟩)) <| st (sV_new (ev_box rfl rfl ⟨_, rfl⟩)) <| st (sV_new (ev_alloc ⟨_, rfl, rfl⟩)) <| zpA <| st zDreg_eq <| st (zPD_v (vFieldAddr_loc rfl)) <| st (zLD_v (wL_loc rfl rfl rfl rfl) rfl (by kernel_rfl)) <| st (dP_new (append_firstS (k := aM.length) row22 rfl rfl hlM (fun e => hM (List.eq_nil_of_length_eq_zero e)) (by omega)) rfl (by kernel_rfl)) <| st (zPD_v (vFieldAddr_loc rfl)) <| st (zLD_v (wL_loc rfl rfl rfl rfl) rfl (by kernel_rfl)) <| st (dP_new (append_firstS (k := aC.length) row23 rfl rfl hlC (fun e => hC (List.eq_nil_of_length_eq_zero e)) (by omega)) rfl (by kernel_rfl)) <| st (dP_val (a := Acc.none) rfl rfl) <| st (dV_new (ev_alloc ⟨_, rfl, rfl⟩) rfl (by kernel_rfl)) <| st (dN_put (ev_store rfl rfl rfl ⟨_, rfl, rfl⟩ rfl rfl) rfl (by kernel_rfl)) <| zpA <| zpR <| zpV <| st zBlock_app ?_
   exact joined18 k ⟨aM, aC, f1, f2⟩ b (by omega) hb1 hb2 _ _ [.sl 0 [] true, .sl 0 [] true] rfl (.own 3 0 aM.length 2) (.own 4 0 aC.length 3) rfl rfl rfl (.inr ⟨rfl, false, rfl⟩) (.inr ⟨rfl, false, rfl⟩) (by simp; try omega) (by simp; try omega) _ _ _ _
 obtain ⟨f1, f2, h⟩ := main
 exact ⟨f1, f2, call_go (zf := G18 E1) rfl rfl (fz_two a b) (fun _ => rfl) h⟩
end Go.Proofs.PxV2
