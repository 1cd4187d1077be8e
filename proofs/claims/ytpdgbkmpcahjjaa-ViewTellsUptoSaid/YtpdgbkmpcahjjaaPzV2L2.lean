/- ViewTells: the law's own text (walks by zauto). -/
import Derived.Test.YtpdgbkmpcahjjaaPzV2L1
set_option linter.unusedVariables false
set_option linter.unusedSimpArgs false
set_option maxRecDepth 100000
namespace Go.Proofs.PxV2
open Go Go.Px Go.Proofs
theorem known9 (k : Nat) : isTrueT (bodyZ E1 (CY (k + 499)) [] (k + 499) (G9 E1) [] (rep [])) = true := by kernel_rfl
theorem c9 {k : Nat} (hk : 500 ≤ k) (Y : YE) (T : TH) : CY k Y (.func 9) [] T = some (.bool true, T, ⟨[], [], false⟩) := by
 obtain ⟨j, rfl⟩ : ∃ j, k = j + 499 + 1 := ⟨k - 500, by omega⟩
 obtain ⟨T2, h⟩ := isTrueT_ok (known9 j)
 exact call_flat (k := j + 499) (zf := G9 E1) rfl rfl (fun _ => rfl) h (fun _ => rfl) rfl
theorem lastM_lt {n : Int} {B : Nat} : ∀ {l : List Mem} {a : Nat}, (∀ x ∈ l, x.2 + 1 < B) → a + 1 < B → lastM n l a + 1 < B
 | [], a, _, h => h
 | x :: l, a, hl, h => by
  have hx := hl x List.mem_cons_self
  have ih := fun c hc => lastM_lt (n := n) (l := l) (a := c) (fun y hy => hl y (List.mem_cons_of_mem _ hy)) hc
  by_cases he : x.1 = n
  ·have e : lastM n (x :: l) a = lastM n l x.2 := by simp [lastM, he]
   rw [e]; exact ih _ hx
  ·have e : lastM n (x :: l) a = lastM n l a := by simp [lastM, he]
   rw [e]; exact ih _ h
theorem lastC_lt {key : List Nat} {B : Nat} : ∀ {l : List Cop} {a : Nat}, (∀ x ∈ l, x.2.1 + 1 < B) → a + 1 < B → lastC key l a + 1 < B
 | [], a, _, h => h
 | x :: l, a, hl, h => by
  have hx := hl x List.mem_cons_self
  have ih := fun c hc => lastC_lt (key := key) (l := l) (a := c) (fun y hy => hl y (List.mem_cons_of_mem _ hy)) hc
  by_cases he : x.1 = key
  ·have e : lastC key (x :: l) a = lastC key l x.2.1 := by simp [lastC, he]
   rw [e]; exact ih _ hx
  ·have e : lastC key (x :: l) a = lastC key l a := by simp [lastC, he]
   rw [e]; exact ih _ h
theorem neqB (p : Bool) : binB E1 .neq 4 false false (.bool p) (.bool p) = some (.bool false) := by cases p <;> rfl
theorem cSame {k : Nat} (Y : YE) (T : TH) (M : List Mem) (C : List Cop) (f1 f2 f3 f4 : Bool) (hk : M.length + C.length + 4 ≤ k) (hm : M.length ≤ 9223372036854775807) (hc : C.length ≤ 9223372036854775807) : CY k Y (.func 13) [(VwT.mk M C f1 f2).av, (VwT.mk M C f3 f4).av] T = some (.bool true, T, ⟨[], [], false⟩) := by
 have h := c13 (k := k) Y T ⟨M, C, f1, f2⟩ ⟨M, C, f3, f4⟩ hk hm hc
 rw [sameW_of] at h
 exact h
set_option maxHeartbeats 2000000 in
theorem law3a {k : Nat} (a b : VwT) (n m : Int) (key : List Nat) (hn : I64 n) (hm : I64 m) (hk : a.M.length + a.C.length + b.M.length + b.C.length + 3000 ≤ k) (ha1 : a.M.length ≤ 100000000) (ha2 : a.C.length ≤ 100000000) (hb1 : b.M.length ≤ 100000000) (hb2 : b.C.length ≤ 100000000) (hwm : ∀ x ∈ a.M, x.2 < 18446744073709551616) (hwc : ∀ x ∈ a.C, x.2.1 < 18446744073709551616) (hh : key.length > 40 ∨ isV a = false) : Px.EndsV (.bool true) ((G3 E1).z (CY k) [] k (finZ E1 (G3 E1).res) (fun _ _ _ _ => none) (finZ E1 (G3 E1).res) [] [a.av, b.av, .str key, .undef, .undef, iV m, iV n, .undef] (rep [])) := by
 have h9 := c9 (k := k) (by omega) [] (rep [.row 25 [a.m, a.c] false, .row 25 [b.m, b.c] false])
 have h10 := c10 (k := k) [] (rep []) a (by omega) (by omega) ha2
 rw [isW_isV] at h10
 obtain ⟨k', hk'⟩ : ∃ j, k = j + 1 := ⟨k - 1, by omega⟩
 have h11 : ∀ (w : VwT), w.M.length + 10 ≤ k → w.C.length + 10 ≤ k → w.M.length ≤ maxLen → w.C.length ≤ maxLen → CY k [] (.func 11) [w.av] (rep []) = some (.bool (isV w), rep [], ⟨[], [], false⟩) := fun w h1 h2 h3 h4 => by
  rw [hk']; exact c11 (k := k') [] (rep []) w (by omega) (by omega) h3 h4
 have hmx : maxLen = 9223372036854775807 := rfl
 have h11a := h11 a (by omega) (by omega) (by omega) (by omega)
 have h11b := h11 b (by omega) (by omega) (by omega) (by omega)
 have h12 := c12 (k := k) [] (rep []) a b (by omega) (by omega) (by omega)
 have h13 := c13 (k := k) [] (rep []) a b (by omega) (by omega) (by omega)
 have h14 := c14 (k := k) [] (rep []) m hm (by omega)
 have h15 := c15 (k := k) [] (rep []) m hm (by omega)
 have hfl : (firstW m).M.length ≤ 4 := by
  show (firstL (clamp4 m).toNat).length ≤ 4
  rw [firstL_len]; unfold clamp4; omega
 have h13f := c13 (k := k) [] (rep []) (firstW m) (firstW m) (by show (firstW m).M.length + 0 + 4 ≤ k; omega) (by omega) (by show (0 : Nat) ≤ _; omega)
 rw [sameW_self] at h13f
 have h16 := c16 (k := k) [] (rep []) a (by omega) (by omega) (by omega) hwm hwc
 unfold G3
 dsimp only
 by_cases hkey : key.length > 40
 ·refine zpR <| st (sV_new (ev_box rfl rfl ⟨_, rfl⟩)) <| st (sV_new (ev_box rfl rfl ⟨_, rfl⟩)) <| zpV <| zpA <| zpR <| st (cP_call rfl h9) <| st (zP_v (vNot_eq rfl)) <| zpf rfl <| zpK <| zpA <| zpR <| st (zP_v (vLenS_eq rfl)) <| st (zP_v (vInt_eq fGtr_ok rfl rfl (tGtr (by omega)))) <| zpt rfl <| zpR <| zpV <| st zRet_app ?_
  exact ⟨_, rfl⟩
 have hA : isV a = false := by
  rcases hh with h | h
  ·exact absurd h hkey
  ·exact h
 rw [hA] at h10 h11a
 refine zpR <| st (sV_new (ev_box rfl rfl ⟨_, rfl⟩)) <| st (sV_new (ev_box rfl rfl ⟨_, rfl⟩)) <| zpV <| zpA <| zpR <| st (cP_call rfl h9) <| st (zP_v (vNot_eq rfl)) <| zpf rfl <| zpK <| zpA <| zpR <| st (zP_v (vLenS_eq rfl)) <| st (zP_v (vInt_eq fGtr_ok rfl rfl (fGtr' (by omega)))) <| zpf rfl <| zpK <| zpA <| zpA <| st zDreg_eq <| st (zLD_v (wL_loc rfl rfl rfl rfl) rfl (by kernel_rfl)) <| st (cP_idle rfl (call_any h10 rfl (fz_v1 a)) rfl) <| st (zLD_v (wL_loc rfl rfl rfl rfl) rfl (by kernel_rfl)) <| st (cP_idle rfl (call_any h11a rfl (fz_v1 a)) rfl) <| st (zPD_v (vInt_any rfl rfl (fun _ _ => rfl) (neqB _))) ?_
 refine zpH rfl <| st (zLD_v (wL_loc rfl rfl rfl rfl) rfl (by kernel_rfl)) <| zpH rfl <| st (zLD_v (wL_loc rfl rfl rfl rfl) rfl (by kernel_rfl)) <| zpH rfl <| st (cP_idle rfl (call_any h12 rfl (fz_two a b)) rfl) <| zpH rfl <| st (zLD_v (wL_loc rfl rfl rfl rfl) rfl (by kernel_rfl)) <| zpH rfl <| st (zLD_v (wL_loc rfl rfl rfl rfl) rfl (by kernel_rfl)) <| zpH rfl <| st (cP_idle rfl (call_any h13 rfl (fz_two a b)) rfl) <| zpH rfl <| st (zPD_v (vInt_any rfl rfl (fun _ _ => rfl) (neqB _))) <| st (zPD_v (vPick_f rfl)) <| zpH rfl <| st (zPD_v vMv_eq) <| zpH rfl <| st (cP_idle rfl (call_any h14 rfl (fun _ => rfl)) rfl) <| zpH rfl <| st (zPD_v vMv_eq) <| zpH rfl <| st (cP_idle rfl (call_any h15 rfl (fun _ => rfl)) rfl) <| zpH rfl ?_
 refine st (cP_idle rfl (call_any h13f rfl (fz_two _ _)) rfl) <| zpH rfl <| st (zPD_v (vNot_eq rfl)) <| st (zPD_v (vPick_f rfl)) <| zpf rfl <| zpK <| zpA <| zpR <| st (zL_v (wL_loc rfl rfl rfl rfl)) <| st (cP_call rfl (call_any h11a rfl (fz_v1 a))) <| st (zP_v (vNot_eq rfl)) <| zpm rfl <| zpm rfl <| zpm rfl <| st (zP_v (vPick_t rfl)) <| zpm rfl <| zpm rfl <| st (zP_v (vPick_t rfl)) <| zpt rfl <| zpR <| zpV <| st zRet_app ?_
 exact ⟨_, rfl⟩
set_option maxHeartbeats 2000000 in
theorem law3b {k : Nat} (a b : VwT) (n m : Int) (key : List Nat) (hn : I64 n) (hm : I64 m) (hk : a.M.length + a.C.length + b.M.length + b.C.length + 3000 ≤ k) (ha1 : a.M.length ≤ 100000000) (ha2 : a.C.length ≤ 100000000) (hb1 : b.M.length ≤ 100000000) (hb2 : b.C.length ≤ 100000000) (hwm : ∀ x ∈ a.M, x.2 < 18446744073709551616) (hwc : ∀ x ∈ a.C, x.2.1 < 18446744073709551616) (hkey : ¬key.length > 40) (hA : isV a = true) (hh : isV b = false ∨ topW a = true) : Px.EndsV (.bool true) ((G3 E1).z (CY k) [] k (finZ E1 (G3 E1).res) (fun _ _ _ _ => none) (finZ E1 (G3 E1).res) [] [a.av, b.av, .str key, .undef, .undef, iV m, iV n, .undef] (rep [])) := by
 have h9 := c9 (k := k) (by omega) [] (rep [.row 25 [a.m, a.c] false, .row 25 [b.m, b.c] false])
 have h10 := c10 (k := k) [] (rep []) a (by omega) (by omega) ha2
 rw [isW_isV] at h10
 obtain ⟨k', hk'⟩ : ∃ j, k = j + 1 := ⟨k - 1, by omega⟩
 have h11 : ∀ (w : VwT), w.M.length + 10 ≤ k → w.C.length + 10 ≤ k → w.M.length ≤ maxLen → w.C.length ≤ maxLen → CY k [] (.func 11) [w.av] (rep []) = some (.bool (isV w), rep [], ⟨[], [], false⟩) := fun w h1 h2 h3 h4 => by
  rw [hk']; exact c11 (k := k') [] (rep []) w (by omega) (by omega) h3 h4
 have hmx : maxLen = 9223372036854775807 := rfl
 have h11a := h11 a (by omega) (by omega) (by omega) (by omega)
 have h11b := h11 b (by omega) (by omega) (by omega) (by omega)
 have h12 := c12 (k := k) [] (rep []) a b (by omega) (by omega) (by omega)
 have h13 := c13 (k := k) [] (rep []) a b (by omega) (by omega) (by omega)
 have h14 := c14 (k := k) [] (rep []) m hm (by omega)
 have h15 := c15 (k := k) [] (rep []) m hm (by omega)
 have hfl : (firstW m).M.length ≤ 4 := by
  show (firstL (clamp4 m).toNat).length ≤ 4
  rw [firstL_len]; unfold clamp4; omega
 have h13f := c13 (k := k) [] (rep []) (firstW m) (firstW m) (by show (firstW m).M.length + 0 + 4 ≤ k; omega) (by omega) (by show (0 : Nat) ≤ _; omega)
 rw [sameW_self] at h13f
 have h16 := c16 (k := k) [] (rep []) a (by omega) (by omega) (by omega) hwm hwc
 unfold G3
 dsimp only
 rw [hA] at h10 h11a
 cases hB : isV b with
 | false =>
  rw [hB] at h11b
  refine zpR <| st (sV_new (ev_box rfl rfl ⟨_, rfl⟩)) <| st (sV_new (ev_box rfl rfl ⟨_, rfl⟩)) <| zpV <| zpA <| zpR <| st (cP_call rfl h9) <| st (zP_v (vNot_eq rfl)) <| zpf rfl <| zpK <| zpA <| zpR <| st (zP_v (vLenS_eq rfl)) <| st (zP_v (vInt_eq fGtr_ok rfl rfl (fGtr' (by omega)))) <| zpf rfl <| zpK <| zpA <| zpA <| st zDreg_eq <| st (zLD_v (wL_loc rfl rfl rfl rfl) rfl (by kernel_rfl)) <| st (cP_idle rfl (call_any h10 rfl (fz_v1 a)) rfl) <| st (zLD_v (wL_loc rfl rfl rfl rfl) rfl (by kernel_rfl)) <| st (cP_idle rfl (call_any h11a rfl (fz_v1 a)) rfl) <| st (zPD_v (vInt_any rfl rfl (fun _ _ => rfl) (neqB _))) ?_
  refine zpH rfl <| st (zLD_v (wL_loc rfl rfl rfl rfl) rfl (by kernel_rfl)) <| zpH rfl <| st (zLD_v (wL_loc rfl rfl rfl rfl) rfl (by kernel_rfl)) <| zpH rfl <| st (cP_idle rfl (call_any h12 rfl (fz_two a b)) rfl) <| zpH rfl <| st (zLD_v (wL_loc rfl rfl rfl rfl) rfl (by kernel_rfl)) <| zpH rfl <| st (zLD_v (wL_loc rfl rfl rfl rfl) rfl (by kernel_rfl)) <| zpH rfl <| st (cP_idle rfl (call_any h13 rfl (fz_two a b)) rfl) <| zpH rfl <| st (zPD_v (vInt_any rfl rfl (fun _ _ => rfl) (neqB _))) <| st (zPD_v (vPick_f rfl)) <| zpH rfl <| st (zPD_v vMv_eq) <| zpH rfl <| st (cP_idle rfl (call_any h14 rfl (fun _ => rfl)) rfl) <| zpH rfl <| st (zPD_v vMv_eq) <| zpH rfl <| st (cP_idle rfl (call_any h15 rfl (fun _ => rfl)) rfl) <| zpH rfl ?_
  refine st (cP_idle rfl (call_any h13f rfl (fz_two _ _)) rfl) <| zpH rfl <| st (zPD_v (vNot_eq rfl)) <| st (zPD_v (vPick_f rfl)) <| zpf rfl <| zpK <| zpA <| zpR <| st (zL_v (wL_loc rfl rfl rfl rfl)) <| st (cP_call rfl (call_any h11a rfl (fz_v1 a))) <| st (zP_v (vNot_eq rfl)) <| zph rfl <| st (zL_v (wL_loc rfl rfl rfl rfl)) <| zph rfl <| st (cP_call rfl (call_any h11b rfl (fz_v1 b))) <| zph rfl <| st (zP_v (vNot_eq rfl)) <| st (zP_v (vPick_f rfl)) <| zpm rfl <| zpm rfl <| st (zP_v (vPick_t rfl)) <| zpt rfl <| zpR <| zpV ?_
  refine st zRet_app ?_
  exact ⟨_, rfl⟩
 | true =>
  have ht : topW a = true := by
   rcases hh with e | e
   ·rw [hB] at e; cases e
   ·exact e
  rw [hB] at h11b
  rw [ht] at h16
  refine zpR <| st (sV_new (ev_box rfl rfl ⟨_, rfl⟩)) <| st (sV_new (ev_box rfl rfl ⟨_, rfl⟩)) <| zpV <| zpA <| zpR <| st (cP_call rfl h9) <| st (zP_v (vNot_eq rfl)) <| zpf rfl <| zpK <| zpA <| zpR <| st (zP_v (vLenS_eq rfl)) <| st (zP_v (vInt_eq fGtr_ok rfl rfl (fGtr' (by omega)))) <| zpf rfl <| zpK <| zpA <| zpA <| st zDreg_eq <| st (zLD_v (wL_loc rfl rfl rfl rfl) rfl (by kernel_rfl)) <| st (cP_idle rfl (call_any h10 rfl (fz_v1 a)) rfl) <| st (zLD_v (wL_loc rfl rfl rfl rfl) rfl (by kernel_rfl)) <| st (cP_idle rfl (call_any h11a rfl (fz_v1 a)) rfl) <| st (zPD_v (vInt_any rfl rfl (fun _ _ => rfl) (neqB _))) ?_
  refine zpH rfl <| st (zLD_v (wL_loc rfl rfl rfl rfl) rfl (by kernel_rfl)) <| zpH rfl <| st (zLD_v (wL_loc rfl rfl rfl rfl) rfl (by kernel_rfl)) <| zpH rfl <| st (cP_idle rfl (call_any h12 rfl (fz_two a b)) rfl) <| zpH rfl <| st (zLD_v (wL_loc rfl rfl rfl rfl) rfl (by kernel_rfl)) <| zpH rfl <| st (zLD_v (wL_loc rfl rfl rfl rfl) rfl (by kernel_rfl)) <| zpH rfl <| st (cP_idle rfl (call_any h13 rfl (fz_two a b)) rfl) <| zpH rfl <| st (zPD_v (vInt_any rfl rfl (fun _ _ => rfl) (neqB _))) <| st (zPD_v (vPick_f rfl)) <| zpH rfl <| st (zPD_v vMv_eq) <| zpH rfl <| st (cP_idle rfl (call_any h14 rfl (fun _ => rfl)) rfl) <| zpH rfl <| st (zPD_v vMv_eq) <| zpH rfl <| st (cP_idle rfl (call_any h15 rfl (fun _ => rfl)) rfl) <| zpH rfl ?_
  refine st (cP_idle rfl (call_any h13f rfl (fz_two _ _)) rfl) <| zpH rfl <| st (zPD_v (vNot_eq rfl)) <| st (zPD_v (vPick_f rfl)) <| zpf rfl <| zpK <| zpA <| zpR <| st (zL_v (wL_loc rfl rfl rfl rfl)) <| st (cP_call rfl (call_any h11a rfl (fz_v1 a))) <| st (zP_v (vNot_eq rfl)) <| zph rfl <| st (zL_v (wL_loc rfl rfl rfl rfl)) <| zph rfl <| st (cP_call rfl (call_any h11b rfl (fz_v1 b))) <| zph rfl <| st (zP_v (vNot_eq rfl)) <| st (zP_v (vPick_f rfl)) <| zph rfl <| st (zL_v (wL_loc rfl rfl rfl rfl)) <| zph rfl <| st (cP_call rfl (call_any h16 rfl (fz_v1 a))) <| st (zP_v (vPick_f rfl)) <| zpt rfl ?_
  refine zpR <| zpV <| st zRet_app ?_
  exact ⟨_, rfl⟩
set_option maxHeartbeats 4000000 in
theorem law3c {k : Nat} (a b : VwT) (n m : Int) (key : List Nat) (hn : I64 n) (hm : I64 m) (hk : a.M.length + a.C.length + b.M.length + b.C.length + 3000 ≤ k) (ha1 : a.M.length ≤ 100000000) (ha2 : a.C.length ≤ 100000000) (hb1 : b.M.length ≤ 100000000) (hb2 : b.C.length ≤ 100000000) (hwm : ∀ x ∈ a.M, x.2 < 18446744073709551616) (hwc : ∀ x ∈ a.C, x.2.1 < 18446744073709551616) (hkey : ¬key.length > 40) (hA : isV a = true) (hB : isV b = true) (ht : topW a = false) : Px.EndsV (.bool true) ((G3 E1).z (CY k) [] k (finZ E1 (G3 E1).res) (fun _ _ _ _ => none) (finZ E1 (G3 E1).res) [] [a.av, b.av, .str key, .undef, .undef, iV m, iV n, .undef] (rep [])) := by
 have h9 := c9 (k := k) (by omega) [] (rep [.row 25 [a.m, a.c] false, .row 25 [b.m, b.c] false])
 have h10 := c10 (k := k) [] (rep []) a (by omega) (by omega) ha2
 rw [isW_isV] at h10
 obtain ⟨k', hk'⟩ : ∃ j, k = j + 1 := ⟨k - 1, by omega⟩
 have h11 : ∀ (w : VwT), w.M.length + 10 ≤ k → w.C.length + 10 ≤ k → w.M.length ≤ maxLen → w.C.length ≤ maxLen → CY k [] (.func 11) [w.av] (rep []) = some (.bool (isV w), rep [], ⟨[], [], false⟩) := fun w h1 h2 h3 h4 => by
  rw [hk']; exact c11 (k := k') [] (rep []) w (by omega) (by omega) h3 h4
 have hmx : maxLen = 9223372036854775807 := rfl
 have h11a := h11 a (by omega) (by omega) (by omega) (by omega)
 have h11b := h11 b (by omega) (by omega) (by omega) (by omega)
 have h12 := c12 (k := k) [] (rep []) a b (by omega) (by omega) (by omega)
 have h13 := c13 (k := k) [] (rep []) a b (by omega) (by omega) (by omega)
 have h14 := c14 (k := k) [] (rep []) m hm (by omega)
 have h15 := c15 (k := k) [] (rep []) m hm (by omega)
 have hfl : (firstW m).M.length ≤ 4 := by
  show (firstL (clamp4 m).toNat).length ≤ 4
  rw [firstL_len]; unfold clamp4; omega
 have h13f := c13 (k := k) [] (rep []) (firstW m) (firstW m) (by show (firstW m).M.length + 0 + 4 ≤ k; omega) (by omega) (by show (0 : Nat) ≤ _; omega)
 rw [sameW_self] at h13f
 have h16 := c16 (k := k) [] (rep []) a (by omega) (by omega) (by omega) hwm hwc
 have oa := okV_of hA
 have ob := okV_of hB
 have sa := sortedM_of hA
 have am := oa.m; have ac := oa.c; have bm := ob.m; have bc := ob.c
 have ac40 : a.C.length ≤ 40 := by simp only [isV, Bool.and_eq_true, decide_eq_true_eq] at hA; exact hA.2
 have bc40 : b.C.length ≤ 40 := by simp only [isV, Bool.and_eq_true, decide_eq_true_eq] at hB; exact hB.2
 have hok : a.C.all okC = true := by
  have h := hA
  rw [← isW_isV] at h
  simp only [isW, Bool.and_eq_true] at h
  exact h.2.1
 obtain ⟨ht1, ht2⟩ : (a.M.any fun x => topN x.2) = false ∧ (a.C.any fun x => topN x.2.1) = false := by
  unfold topW at ht; simpa using ht
 have htm : ∀ x ∈ a.M, x.2 + 1 < 18446744073709551616 := fun x hx => by
  have h1 := List.any_eq_false.1 ht1 x hx
  have h1 : ¬ x.2 = 18446744073709551615 := by simpa [topN] using h1
  have := hwm x hx; omega
 have htc : ∀ x ∈ a.C, x.2.1 + 1 < 18446744073709551616 := fun x hx => by
  have h1 := List.any_eq_false.1 ht2 x hx
  have h1 : ¬ x.2.1 = 18446744073709551615 := by simpa [topN] using h1
  have := hwc x hx; omega
 have hlm := lastM_lt htm (n := n) (a := 0) (by omega)
 obtain ⟨hlf, hhf⟩ := last_find (key := key) oa.s
 have hlc := lastC_lt htc (key := key) (a := 0) (by omega)
 have hfc : (findC a.C key).2.1 + 1 < 18446744073709551616 := by rw [← hlf]; exact hlc
 have hN : hasC a.C key = false ↔ lastC key a.C 0 = 0 := by
  rw [hlf]
  constructor
  ·intro h
   have : findC a.C key = ([], 0, 0) := by
    unfold hasC at h
    unfold findC
    rw [Option.isSome_eq_false_iff, Option.isNone_iff_eq_none] at h
    rw [h]; rfl
   rw [this]
  ·intro h
   cases hh : hasC a.C key with
   | false => rfl
   | true =>
    obtain ⟨x, hx, _, he⟩ := hhf hh
    have := List.all_eq_true.1 hok x hx
    rw [he] at h
    simp [okC, h] at this
 obtain ⟨f1, f2, h17⟩ := c17 (k := k) [] (rep []) a b (by omega) oa ob sa
 obtain ⟨f3, f4, h18⟩ := c18 (k := k) [] (rep []) a b (by omega) (by omega) bc40 (by omega) ac40
 have hjm := mergeM_len gM b.M a.M
 have hjl : ((mergeC gJ a.C b.C).take 40).length ≤ 40 := by rw [List.length_take]; omega
 have h13j := cSame (k := k) [] (rep []) (mergeM gM a.M b.M) ((mergeC gJ a.C b.C).take 40) f1 f2 f3 f4 (by omega) (by omega) (by omega)
 have hin := inN_len a.M
 have h20 : CY k [] (.func 20) [a.av] (rep []) = some (.sl (inN a.M).length ((inN a.M).map iV) (inN a.M).isEmpty, rep [], ⟨[], [], false⟩) := by
  have h := c20 (k := k') [] (rep []) a (by omega) (by omega)
  rw [outV_eq] at h; rw [hk']; exact h
 have h21 : CY k [] (.func 21) [a.av] (rep []) = some (.sl (inN a.M).length ((inN a.M).map iV) (inN a.M).isEmpty, rep [], ⟨[], [], false⟩) := by
  have h := c21 (k := k') [] (rep []) a (by omega) (by omega)
  rw [outV_eq] at h; rw [hk']; exact h
 have h19 : CY k [] (.func 19) [.sl (inN a.M).length ((inN a.M).map iV) (inN a.M).isEmpty, .sl (inN a.M).length ((inN a.M).map iV) (inN a.M).isEmpty] (rep []) = some (.bool true, rep [], ⟨[], [], false⟩) := by
  have h := c19 (k := k') [] (rep []) (inN a.M) (inN a.M) (inN a.M).isEmpty (inN a.M).isEmpty (by omega) (by omega)
  rw [show decide (inN a.M = inN a.M) = true by simp] at h; rw [hk']; exact h
 obtain ⟨f5, f6, h22⟩ := c22 (k := k) [] (rep []) a n (by omega) oa sa
 obtain ⟨f7, f8, h23⟩ := c23 (k := k) [] (rep []) a n (by omega) oa hlm
 have eT : (if n < 0 ∨ n ≥ 4 then a.M else insM gM (n, lastM n a.M 0 + 1) a.M) = (turnW a n).M := by
  unfold turnW
  split
  ·rfl
  ·exact (turn_same sa htm).symm
 have eT2 : a.C = (turnW a n).C := by unfold turnW; split <;> rfl
 rw [eT, eT2] at h23
 have hTl : (turnW a n).M.length ≤ 50 ∧ (turnW a n).C.length ≤ 40 := by
  rw [← eT2]
  refine ⟨?_, ac40⟩
  rw [← eT]
  split
  ·omega
  ·have := insM_len gM (n, lastM n a.M 0 + 1) a.M; omega
 have h13t := cSame (k := k) [] (rep []) (turnW a n).M (turnW a n).C f5 f6 f7 f8 (by omega) (by omega) (by omega)
 obtain ⟨k6, hk6⟩ : ∃ j, k = j + 6 := ⟨k - 6, by omega⟩
 have h24 : CY k [] (.func 24) [a.av, .str key] (rep []) = some (iV (ofN a.C key), rep [], ⟨[], [], false⟩) := by
  have h := c24 (k := k6) [] (rep []) a key oa.s (by omega) (by omega)
  rw [hk6]; exact h
 have h25 : CY k [] (.func 25) [a.av, .str key] (rep []) = some (iV (ofN a.C key), rep [], ⟨[], [], false⟩) := by
  have h := c25 (k := k') [] (rep []) a key (by omega) (by omega)
  rw [hk']; exact h
 obtain ⟨g5, g6, h26⟩ := c26 (k := k) [] (rep []) a key m (by omega) oa hfc
 obtain ⟨g7, g8, h27⟩ := c27 (k := k) [] (rep []) a key m (by omega) oa hlc
 have eS1 : a.M = (setW a key m).1 := by unfold setW; split <;> rfl
 have eS2 : (if key.length < 1 ∨ key.length > 8 ∨ (lastC key a.C 0 = 0 ∧ a.C.length ≥ 40) then a.C else insC gJ (key, lastC key a.C 0 + 1, (min (max m 1) 3).toNat) a.C) = (setW a key m).2 := by
  have hk0 : key.length < 1 ↔ key = [] := by rw [← List.length_eq_zero_iff]; omega
  have hc : (key.length < 1 ∨ key.length > 8 ∨ (lastC key a.C 0 = 0 ∧ a.C.length ≥ 40)) ↔ (key = [] ∨ key.length > 8 ∨ (hasC a.C key = false ∧ a.C.length ≥ 40)) := by rw [hN, hk0]
  unfold setW
  by_cases h : key = [] ∨ key.length > 8 ∨ (hasC a.C key = false ∧ a.C.length ≥ 40)
  ·rw [if_pos (hc.2 h), if_pos h]
  ·rw [if_neg (fun h2 => h (hc.1 h2)), if_neg h, hlf]
   exact (set_same2 oa.s).symm
 rw [eS1, eS2] at h27
 have hSl : (setW a key m).1.length ≤ 50 ∧ (setW a key m).2.length ≤ 50 := by
  rw [← eS1, ← eS2]
  refine ⟨by omega, ?_⟩
  split
  ·omega
  ·have := insC_len gJ (key, lastC key a.C 0 + 1, (min (max m 1) 3).toNat) a.C; omega
 have h13s := cSame (k := k) [] (rep []) (setW a key m).1 (setW a key m).2 g5 g6 g7 g8 (by omega) (by omega) (by omega)
 clear eS1 eS2 eT eT2
 unfold G3
 dsimp only
 rw [hA] at h10 h11a
 rw [hB] at h11b
 rw [ht] at h16
 have hof : intBin .eql .i64 (ofN a.C key) (ofN a.C key) = some (.bool true) := tEql rfl
 refine zpR <| st (sV_new (ev_box rfl rfl ⟨_, rfl⟩)) <| st (sV_new (ev_box rfl rfl ⟨_, rfl⟩)) <| zpV <| zpA <| zpR <| st (cP_call rfl h9) <| st (zP_v (vNot_eq rfl)) <| zpf rfl <| zpK <| zpA <| zpR <| st (zP_v (vLenS_eq rfl)) <| st (zP_v (vInt_eq fGtr_ok rfl rfl (fGtr' (by omega)))) <| zpf rfl <| zpK <| zpA <| zpA <| st zDreg_eq <| st (zLD_v (wL_loc rfl rfl rfl rfl) rfl (by kernel_rfl)) <| st (cP_idle rfl (call_any h10 rfl (fz_v1 a)) rfl) <| st (zLD_v (wL_loc rfl rfl rfl rfl) rfl (by kernel_rfl)) <| st (cP_idle rfl (call_any h11a rfl (fz_v1 a)) rfl) <| st (zPD_v (vInt_any rfl rfl (fun _ _ => rfl) (neqB _))) ?_
 refine zpH rfl <| st (zLD_v (wL_loc rfl rfl rfl rfl) rfl (by kernel_rfl)) <| zpH rfl <| st (zLD_v (wL_loc rfl rfl rfl rfl) rfl (by kernel_rfl)) <| zpH rfl <| st (cP_idle rfl (call_any h12 rfl (fz_two a b)) rfl) <| zpH rfl <| st (zLD_v (wL_loc rfl rfl rfl rfl) rfl (by kernel_rfl)) <| zpH rfl <| st (zLD_v (wL_loc rfl rfl rfl rfl) rfl (by kernel_rfl)) <| zpH rfl <| st (cP_idle rfl (call_any h13 rfl (fz_two a b)) rfl) <| zpH rfl <| st (zPD_v (vInt_any rfl rfl (fun _ _ => rfl) (neqB _))) <| st (zPD_v (vPick_f rfl)) <| zpH rfl <| st (zPD_v vMv_eq) <| zpH rfl <| st (cP_idle rfl (call_any h14 rfl (fun _ => rfl)) rfl) <| zpH rfl <| st (zPD_v vMv_eq) <| zpH rfl <| st (cP_idle rfl (call_any h15 rfl (fun _ => rfl)) rfl) <| zpH rfl ?_
 refine st (cP_idle rfl (call_any h13f rfl (fz_two _ _)) rfl) <| zpH rfl <| st (zPD_v (vNot_eq rfl)) <| st (zPD_v (vPick_f rfl)) <| zpf rfl <| zpK <| zpA <| zpR <| st (zL_v (wL_loc rfl rfl rfl rfl)) <| st (cP_call rfl (call_any h11a rfl (fz_v1 a))) <| st (zP_v (vNot_eq rfl)) <| zph rfl <| st (zL_v (wL_loc rfl rfl rfl rfl)) <| zph rfl <| st (cP_call rfl (call_any h11b rfl (fz_v1 b))) <| zph rfl <| st (zP_v (vNot_eq rfl)) <| st (zP_v (vPick_f rfl)) <| zph rfl <| st (zL_v (wL_loc rfl rfl rfl rfl)) <| zph rfl <| st (cP_call rfl (call_any h16 rfl (fz_v1 a))) <| st (zP_v (vPick_f rfl)) <| zpf rfl ?_
 refine zpK <| zpA <| st zDreg_eq <| st (zLD_v (wL_loc rfl rfl rfl rfl) rfl (by kernel_rfl)) <| st (zLD_v (wL_loc rfl rfl rfl rfl) rfl (by kernel_rfl)) <| st (cP_idle rfl (call_any h17 rfl (fz_two a b)) rfl) <| st (zLD_v (wL_loc rfl rfl rfl rfl) rfl (by kernel_rfl)) <| st (zLD_v (wL_loc rfl rfl rfl rfl) rfl (by kernel_rfl)) <| st (cP_idle rfl (call_any h18 rfl (fz_two a b)) rfl) <| st (cP_idle rfl (call_any h13j rfl (fz_two _ _)) rfl) <| zpH rfl <| st (zLD_v (wL_loc rfl rfl rfl rfl) rfl (by kernel_rfl)) <| zpH rfl <| st (cP_idle rfl (call_any h20 rfl (fz_v1 a)) rfl) <| zpH rfl <| st (zLD_v (wL_loc rfl rfl rfl rfl) rfl (by kernel_rfl)) <| zpH rfl <| st (cP_idle rfl (call_any h21 rfl (fz_v1 a)) rfl) <| zpH rfl <| st (cP_idle rfl (call_any h19 rfl (fun _ => rfl)) rfl) <| st (zPD_v (vPick_t rfl)) <| zpH rfl <| st (zLD_v (wL_loc rfl rfl rfl rfl) rfl (by kernel_rfl)) <| zpH rfl ?_
 refine st (zPD_v vMv_eq) <| zpH rfl <| st (cP_idle rfl (call_any h22 rfl (fz_vi a n)) rfl) <| zpH rfl <| st (zLD_v (wL_loc rfl rfl rfl rfl) rfl (by kernel_rfl)) <| zpH rfl <| st (zPD_v vMv_eq) <| zpH rfl <| st (cP_idle rfl (call_any h23 rfl (fz_vi a n)) rfl) <| zpH rfl <| st (cP_idle rfl (call_any h13t rfl (fz_two _ _)) rfl) <| st (zPD_v (vPick_t rfl)) <| zpH rfl <| st (zLD_v (wL_loc rfl rfl rfl rfl) rfl (by kernel_rfl)) <| zpH rfl <| st (zPD_v vMv_eq) <| zpH rfl <| st (cP_idle rfl (call_any h24 rfl (fun _ => rfl)) rfl) <| zpH rfl <| st (zLD_v (wL_loc rfl rfl rfl rfl) rfl (by kernel_rfl)) <| zpH rfl <| st (zPD_v vMv_eq) <| zpH rfl <| st (cP_idle rfl (call_any h25 rfl (fun _ => rfl)) rfl) ?_
 refine zpH rfl <| st (zPD_v (vInt_eq fEql_ok rfl rfl (tEql (by omega)))) <| st (zPD_v (vPick_t rfl)) <| zpH rfl <| st (zLD_v (wL_loc rfl rfl rfl rfl) rfl (by kernel_rfl)) <| zpH rfl <| st (zPD_v vMv_eq) <| zpH rfl <| st (zPD_v vMv_eq) <| zpH rfl <| st (cP_idle rfl (call_any h26 rfl (fun _ => rfl)) rfl) <| zpH rfl <| st (zLD_v (wL_loc rfl rfl rfl rfl) rfl (by kernel_rfl)) <| zpH rfl <| st (zPD_v vMv_eq) <| zpH rfl <| st (zPD_v vMv_eq) <| zpH rfl <| st (cP_idle rfl (call_any h27 rfl (fun _ => rfl)) rfl) <| zpH rfl <| st (cP_idle rfl (call_any h13s rfl (fz_two _ _)) rfl) <| st (zPD_v (vPick_t rfl)) <| st (zVD_v vMv_eq) <| st zRet_app ?_
 exact ⟨_, rfl⟩
theorem law3 {k : Nat} (a b : VwT) (n m : Int) (key : List Nat) (hn : I64 n) (hm : I64 m) (hk : a.M.length + a.C.length + b.M.length + b.C.length + 3000 ≤ k) (ha1 : a.M.length ≤ 100000000) (ha2 : a.C.length ≤ 100000000) (hb1 : b.M.length ≤ 100000000) (hb2 : b.C.length ≤ 100000000) (hwm : ∀ x ∈ a.M, x.2 < 18446744073709551616) (hwc : ∀ x ∈ a.C, x.2.1 < 18446744073709551616) : Px.EndsV (.bool true) ((G3 E1).z (CY k) [] k (finZ E1 (G3 E1).res) (fun _ _ _ _ => none) (finZ E1 (G3 E1).res) [] [a.av, b.av, .str key, .undef, .undef, iV m, iV n, .undef] (rep [])) := by
 by_cases hkey : key.length > 40
 ·exact law3a a b n m key hn hm hk ha1 ha2 hb1 hb2 hwm hwc (.inl hkey)
 cases hA : isV a with
 | false => exact law3a a b n m key hn hm hk ha1 ha2 hb1 hb2 hwm hwc (.inr hA)
 | true =>
  cases hB : isV b with
  | false => exact law3b a b n m key hn hm hk ha1 ha2 hb1 hb2 hwm hwc hkey hA (.inl hB)
  | true =>
   cases ht : topW a with
   | true => exact law3b a b n m key hn hm hk ha1 ha2 hb1 hb2 hwm hwc hkey hA (.inr ht)
   | false => exact law3c a b n m key hn hm hk ha1 ha2 hb1 hb2 hwm hwc hkey hA hB ht
end Go.Proofs.PxV2
