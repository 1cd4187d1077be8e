/- Views: joined, by the reference (walks by zauto). -/
import Derived.Test.YtpdgbkmpcahjjaaPzV2Q
set_option linter.unusedVariables false
set_option linter.unusedSimpArgs false
set_option maxRecDepth 100000
namespace Go.Proofs.PxV2
open Go Go.Px Go.Proofs
def StM (H : Heap) (v : AV) (M : List Mem) : Prop := (∃ f, v = .sl M.length (memC M) f) ∨ (v = .own 3 0 M.length 2 ∧ ∃ fr, H[3]? = some (.row 55 (memC M) fr))
def StC (H : Heap) (v : AV) (C : List Cop) : Prop := (∃ f, v = .sl C.length (copC C) f) ∨ (v = .own 4 0 C.length 3 ∧ ∃ fr, H[4]? = some (.row 59 (copC C) fr))
theorem mark_one {H : Heap} {nm e : Nat} {cs : List AV} {fr : Bool} (h : H[nm]? = some (.row e cs fr)) : markAll H ([nm] ++ []) = H.set nm (.row e cs true) := by
 simp [markAll, markOne, h]
theorem c56s {k : Nat} (Y : YE) (H : Heap) (v : AV) (M : List Mem) (x : Mem) (hv : StM H v M) (hl : M.length < 50000) (hk : M.length + 2 ≤ k) :
  ∃ f H' a, CY k Y (.func 56) [v, memB x] (rep H) = some (.sl (insM gM x M).length (memC (insM gM x M)) f, rep H', a) ∧ (a.idle = true ∨ a = ⟨[3] ++ [] ++ ([3] ++ []), [], false⟩) ∧ H'.length = H.length ∧ ∀ i, i ≠ 3 → H'[i]? = H[i]? := by
 obtain ⟨k, rfl⟩ : ∃ j, k = j + 1 := ⟨k - 1, by omega⟩
 rcases hv with ⟨f, rfl⟩ | ⟨rfl, fr, h⟩
 ·obtain ⟨fo, h56⟩ := c56 (k := k) Y (rep H) x M f hl (by omega)
  exact ⟨fo, H, _, h56, .inl rfl, rfl, fun _ _ => rfl⟩
 ·obtain ⟨fo, h56⟩ := c56 (k := k) Y (rep H) x M false hl (by omega)
  refine ⟨fo, H.set 3 (.row 55 (memC M) true), _, ?_, .inr rfl, by simp, fun i hi => by rw [List.getElem?_set_ne (fun e => hi e.symm)]⟩
  have h2 := call_fzN (Y := Y) (args := [.own 3 0 M.length 2, memB x]) (H := H) (ns := [3] ++ []) h56 rfl (fun _ => rfl) (by
   have := fzG_ownX (E := E1) (g := fun i => H[i]?) (k := 59) (n := M.length) (sz := 2) h (memC_len M) (fzL_memC _ 58 M)
   show (do let (y, ns) ← fzG E1 (fun i => H[i]?) 60 _; let (xs, ms) ← fzL (fzG E1 (fun i => H[i]?) 60) [memB x]; return (y :: xs, ns ++ ms)) = _
   rw [this]; rfl) rfl
  rw [mark_one h] at h2
  exact h2
theorem c57s {k : Nat} (Y : YE) (H : Heap) (v : AV) (C : List Cop) (x : Cop) (hv : StC H v C) (hl : C.length < 50000) (hk : C.length + 2 ≤ k) :
  ∃ f H' a, CY k Y (.func 57) [v, copA x] (rep H) = some (.sl (insC gJ x C).length (copC (insC gJ x C)) f, rep H', a) ∧ (a.idle = true ∨ a = ⟨[4] ++ [] ++ ([4] ++ []), [], false⟩) ∧ H'.length = H.length ∧ ∀ i, i ≠ 4 → H'[i]? = H[i]? := by
 obtain ⟨k, rfl⟩ : ∃ j, k = j + 1 := ⟨k - 1, by omega⟩
 rcases hv with ⟨f, rfl⟩ | ⟨rfl, fr, h⟩
 ·obtain ⟨fo, h57⟩ := c57 (k := k) Y (rep H) x C f hl (by omega)
  exact ⟨fo, H, _, h57, .inl rfl, rfl, fun _ _ => rfl⟩
 ·obtain ⟨fo, h57⟩ := c57 (k := k) Y (rep H) x C false hl (by omega)
  refine ⟨fo, H.set 4 (.row 59 (copC C) true), _, ?_, .inr rfl, by simp, fun i hi => by rw [List.getElem?_set_ne (fun e => hi e.symm)]⟩
  have h2 := call_fzN (Y := Y) (args := [.own 4 0 C.length 3, copA x]) (H := H) (ns := [4] ++ []) h57 rfl (fun _ => rfl) (by
   have := fzG_ownX (E := E1) (g := fun i => H[i]?) (k := 59) (n := C.length) (sz := 3) h (copC_len C) (fzL_copC _ 58 C)
   show (do let (y, ns) ← fzG E1 (fun i => H[i]?) 60 _; let (xs, ms) ← fzL (fzG E1 (fun i => H[i]?) 60) [copA x]; return (y :: xs, ns ++ ms)) = _
   rw [this]; rfl) rfl
  rw [mark_one h] at h2
  exact h2
noncomputable def body18M (call : CallTT) : CZ := xbody18M E1 call
noncomputable def body18C (call : CallTT) : CZ := xbody18C E1 call
theorem loop18M {P : Ans → Prop} {kn : KB} {kx : Nat → KB} {kr : KB} {k : Nat} (a b : VwT) (v6 vC : AV) (hl : b.M.length ≤ 40) (hk : 1000 ≤ k) : ∀ (d i q : Nat) (L : List AV) (H : Heap) (v : AV) (M : List Mem), i + d = b.M.length → d < q → H[1]? = some (.row 25 [b.m, b.c] false) → H[5]? = some (.row 25 [v, vC] false) → StM H v M → M.length + d ≤ 100 →
  (∀ L H' v' i', H'[1]? = some (.row 25 [b.m, b.c] false) → H'[5]? = some (.row 25 [v', vC] false) → H'[2]? = H[2]? → H'[4]? = H[4]? → StM H' v' (mergeM gM M (b.M.drop i)) → P (kx 0 L [a.av, b.av, .loc 0 0, i', .loc 1 0, .loc 5 0, v6, .loc 2 0] (rep H'))) →
  P (zLoop q (body18M (CY k [])) kn kx kr L [a.av, b.av, .loc 0 0, iV i, .loc 1 0, .loc 5 0, v6, .loc 2 0] (rep H))
 | 0, i, q, L, H, v, M, hi, hq, h1, h5, hM, hMl, hr => by
  obtain ⟨q, rfl⟩ : ∃ q', q = q' + 1 := ⟨q - 1, by omega⟩
  refine st zLoop_one ?_
  unfold body18M xbody18M
  rw [List.drop_eq_nil_of_le (by omega)] at hr
  refine zpA <| zpR <| st (zP_v (vFieldAddr_loc rfl)) <| st (zL_v (wL_loc rfl (by assumption) rfl rfl)) <| st (zP_v (vLenL_sl rfl)) <| st (zP_v (vInt_eq fLss_ok rfl rfl (fLss' (by omega)))) <| zpf rfl <| st zExit_app ?_
  exact hr _ _ _ _ h1 h5 rfl rfl hM
 | d + 1, i, q, L, H, v, M, hi, hq, h1, h5, hM, hMl, hr => by
  obtain ⟨q, rfl⟩ : ∃ q', q = q' + 1 := ⟨q - 1, by omega⟩
  obtain ⟨x, hx⟩ := get_some (l := b.M) (i := i) (by omega)
  have hcl := memC_len b.M
  rw [drop_at hx] at hr
  have hM2 : StM (H ++ List.replicate 1 .dead) v M := by
   rcases hM with h | ⟨h, fr, h3⟩
   ·exact .inl h
   ·exact .inr ⟨h, fr, get_app h3⟩
  obtain ⟨f, H', ac, h56, hac, hlen, hfr⟩ := c56s (k := k) [] (H ++ List.replicate 1 .dead) v M x hM2 (by omega) (by omega)
  have h5' : H'[5]? = some (.row 25 [v, vC] false) := by rw [hfr 5 (by decide)]; exact get_app h5
  have h1' : H'[1]? = some (.row 25 [b.m, b.c] false) := by rw [hfr 1 (by decide)]; exact get_app h1
  have hlM := insM_len gM x M
  refine st zLoop_one ?_
  unfold body18M xbody18M
  rcases hac with hac | hac
  ·refine zpA <| zpR <| st (zP_v (vFieldAddr_loc rfl)) <| st (zL_v (wL_loc rfl (by assumption) rfl rfl)) <| st (zP_v (vLenL_sl rfl)) <| st (zP_v (vInt_eq fLss_ok rfl rfl (tLss (by omega)))) <| zpt rfl <| zpK <| zpA <| st zBlock_app <| st zDreg_eq <| st (zPD_v (vFieldAddr_loc rfl)) <| st (zLD_v (wL_loc rfl (get_app (by assumption)) rfl rfl) rfl (by kernel_rfl)) <| st (zPD_v (vFieldAddr_loc rfl)) <| st (zLD_v (wL_loc rfl (get_app (by assumption)) rfl rfl) rfl (by kernel_rfl)) <| st (zPD_v (vIndexAddr_sl rfl rfl (by omega) (by omega))) ?_
   rw [mem_at hx]
   refine st (zLD_idle (wL_ref rfl rfl rfl) rfl) <| st (cP_idle rfl h56 hac) <| st (zPD_v (vFieldAddr_loc rfl)) <| st (dN_put (ev_store rfl rfl (by assumption) ⟨_, rfl, rfl⟩ rfl rfl) rfl (by kernel_rfl)) <| st zReg_eq <| st (zP_v vMv_eq) <| st (zP_v (vInt_eq fAdd_ok rfl rfl (aAdd1 (by omega)))) <| zpV ?_
   exact loop18M a b v6 vC hl hk d (i + 1) q _ _ _ (insM gM x M) (by omega) (by omega) (get_set h1' (by decide)) (get_self h5') (.inl ⟨f, rfl⟩) (by omega) (fun L H2 v' i' g1 g5 g2 g4 gM => hr L H2 v' i' g1 g5 (by rw [g2, List.getElem?_set_ne (by decide), hfr 2 (by decide)]; exact List.getElem?_append_left (len_of h5 |> fun h => by omega)) (by rw [g4, List.getElem?_set_ne (by decide), hfr 4 (by decide)]; exact List.getElem?_append_left (len_of h5 |> fun h => by omega)) gM)
  ·subst hac
   refine zpA <| zpR <| st (zP_v (vFieldAddr_loc rfl)) <| st (zL_v (wL_loc rfl (by assumption) rfl rfl)) <| st (zP_v (vLenL_sl rfl)) <| st (zP_v (vInt_eq fLss_ok rfl rfl (tLss (by omega)))) <| zpt rfl <| zpK <| zpA <| st zBlock_app <| st zDreg_eq <| st (zPD_v (vFieldAddr_loc rfl)) <| st (zLD_v (wL_loc rfl (get_app (by assumption)) rfl rfl) rfl (by kernel_rfl)) <| st (zPD_v (vFieldAddr_loc rfl)) <| st (zLD_v (wL_loc rfl (get_app (by assumption)) rfl rfl) rfl (by kernel_rfl)) <| st (zPD_v (vIndexAddr_sl rfl rfl (by omega) (by omega))) ?_
   rw [mem_at hx]
   refine st (zLD_idle (wL_ref rfl rfl rfl) rfl) <| st (cP_acc rfl h56 rfl (by kernel_rfl)) <| st (zPD_v (vFieldAddr_loc rfl)) <| st (dN_put (ev_store rfl rfl (by assumption) ⟨_, rfl, rfl⟩ rfl rfl) rfl (by kernel_rfl)) <| st zReg_eq <| st (zP_v vMv_eq) <| st (zP_v (vInt_eq fAdd_ok rfl rfl (aAdd1 (by omega)))) <| zpV ?_
   exact loop18M a b v6 vC hl hk d (i + 1) q _ _ _ (insM gM x M) (by omega) (by omega) (get_set h1' (by decide)) (get_self h5') (.inl ⟨f, rfl⟩) (by omega) (fun L H2 v' i' g1 g5 g2 g4 gM => hr L H2 v' i' g1 g5 (by rw [g2, List.getElem?_set_ne (by decide), hfr 2 (by decide)]; exact List.getElem?_append_left (len_of h5 |> fun h => by omega)) (by rw [g4, List.getElem?_set_ne (by decide), hfr 4 (by decide)]; exact List.getElem?_append_left (len_of h5 |> fun h => by omega)) gM)
theorem loop18C {P : Ans → Prop} {kn : KB} {kx : Nat → KB} {kr : KB} {k : Nat} (a b : VwT) (v3 vM : AV) (hl : b.C.length ≤ 40) (hk : 1000 ≤ k) : ∀ (d i q : Nat) (L : List AV) (H : Heap) (v : AV) (C : List Cop), i + d = b.C.length → d < q → H[1]? = some (.row 25 [b.m, b.c] false) → H[5]? = some (.row 25 [vM, v] false) → StC H v C → C.length + d ≤ 100 →
  (∀ L H' v' i', H'[1]? = some (.row 25 [b.m, b.c] false) → H'[5]? = some (.row 25 [vM, v'] false) → H'[2]? = H[2]? → H'[3]? = H[3]? → StC H' v' (mergeC gJ C (b.C.drop i)) → P (kx 2 L [a.av, b.av, .loc 0 0, v3, .loc 1 0, .loc 5 0, i', .loc 2 0] (rep H'))) →
  P (zLoop q (body18C (CY k [])) kn kx kr L [a.av, b.av, .loc 0 0, v3, .loc 1 0, .loc 5 0, iV i, .loc 2 0] (rep H))
 | 0, i, q, L, H, v, C, hi, hq, h1, h5, hM, hMl, hr => by
  obtain ⟨q, rfl⟩ : ∃ q', q = q' + 1 := ⟨q - 1, by omega⟩
  refine st zLoop_one ?_
  unfold body18C xbody18C
  rw [List.drop_eq_nil_of_le (by omega)] at hr
  refine zpA <| zpR <| st (zP_v (vFieldAddr_loc rfl)) <| st (zL_v (wL_loc rfl (by assumption) rfl rfl)) <| st (zP_v (vLenL_sl rfl)) <| st (zP_v (vInt_eq fLss_ok rfl rfl (fLss' (by omega)))) <| zpf rfl <| st zExit_app ?_
  exact hr _ _ _ _ h1 h5 rfl rfl hM
 | d + 1, i, q, L, H, v, C, hi, hq, h1, h5, hM, hMl, hr => by
  obtain ⟨q, rfl⟩ : ∃ q', q = q' + 1 := ⟨q - 1, by omega⟩
  obtain ⟨x, hx⟩ := get_some (l := b.C) (i := i) (by omega)
  have hcl := copC_len b.C
  rw [drop_at hx] at hr
  have hM2 : StC (H ++ List.replicate 1 .dead) v C := by
   rcases hM with h | ⟨h, fr, h3⟩
   ·exact .inl h
   ·exact .inr ⟨h, fr, get_app h3⟩
  obtain ⟨f, H', ac, h57, hac, hlen, hfr⟩ := c57s (k := k) [] (H ++ List.replicate 1 .dead) v C x hM2 (by omega) (by omega)
  have h5' : H'[5]? = some (.row 25 [vM, v] false) := by rw [hfr 5 (by decide)]; exact get_app h5
  have h1' : H'[1]? = some (.row 25 [b.m, b.c] false) := by rw [hfr 1 (by decide)]; exact get_app h1
  have hlM := insC_len gJ x C
  refine st zLoop_one ?_
  unfold body18C xbody18C
  rcases hac with hac | hac
  ·refine zpA <| zpR <| st (zP_v (vFieldAddr_loc rfl)) <| st (zL_v (wL_loc rfl (by assumption) rfl rfl)) <| st (zP_v (vLenL_sl rfl)) <| st (zP_v (vInt_eq fLss_ok rfl rfl (tLss (by omega)))) <| zpt rfl <| zpK <| zpA <| st zBlock_app <| st zDreg_eq <| st (zPD_v (vFieldAddr_loc rfl)) <| st (zLD_v (wL_loc rfl (get_app (by assumption)) rfl rfl) rfl (by kernel_rfl)) <| st (zPD_v (vFieldAddr_loc rfl)) <| st (zLD_v (wL_loc rfl (get_app (by assumption)) rfl rfl) rfl (by kernel_rfl)) <| st (zPD_v (vIndexAddr_sl rfl rfl (by omega) (by omega))) ?_
   rw [cop_at hx]
   refine st (zLD_idle (wL_ref rfl rfl rfl) rfl) <| st (cP_idle rfl h57 hac) <| st (zPD_v (vFieldAddr_loc rfl)) <| st (dN_put (ev_store rfl rfl (by assumption) ⟨_, rfl, rfl⟩ rfl rfl) rfl (by kernel_rfl)) <| st zReg_eq <| st (zP_v vMv_eq) <| st (zP_v (vInt_eq fAdd_ok rfl rfl (aAdd1 (by omega)))) <| zpV ?_
   exact loop18C a b v3 vM hl hk d (i + 1) q _ _ _ (insC gJ x C) (by omega) (by omega) (get_set h1' (by decide)) (get_self h5') (.inl ⟨f, rfl⟩) (by omega) (fun L H2 v' i' g1 g5 g2 g4 gM => hr L H2 v' i' g1 g5 (by rw [g2, List.getElem?_set_ne (by decide), hfr 2 (by decide)]; exact List.getElem?_append_left (len_of h5 |> fun h => by omega)) (by rw [g4, List.getElem?_set_ne (by decide), hfr 3 (by decide)]; exact List.getElem?_append_left (len_of h5 |> fun h => by omega)) gM)
  ·subst hac
   refine zpA <| zpR <| st (zP_v (vFieldAddr_loc rfl)) <| st (zL_v (wL_loc rfl (by assumption) rfl rfl)) <| st (zP_v (vLenL_sl rfl)) <| st (zP_v (vInt_eq fLss_ok rfl rfl (tLss (by omega)))) <| zpt rfl <| zpK <| zpA <| st zBlock_app <| st zDreg_eq <| st (zPD_v (vFieldAddr_loc rfl)) <| st (zLD_v (wL_loc rfl (get_app (by assumption)) rfl rfl) rfl (by kernel_rfl)) <| st (zPD_v (vFieldAddr_loc rfl)) <| st (zLD_v (wL_loc rfl (get_app (by assumption)) rfl rfl) rfl (by kernel_rfl)) <| st (zPD_v (vIndexAddr_sl rfl rfl (by omega) (by omega))) ?_
   rw [cop_at hx]
   refine st (zLD_idle (wL_ref rfl rfl rfl) rfl) <| st (cP_acc rfl h57 rfl (by kernel_rfl)) <| st (zPD_v (vFieldAddr_loc rfl)) <| st (dN_put (ev_store rfl rfl (by assumption) ⟨_, rfl, rfl⟩ rfl rfl) rfl (by kernel_rfl)) <| st zReg_eq <| st (zP_v vMv_eq) <| st (zP_v (vInt_eq fAdd_ok rfl rfl (aAdd1 (by omega)))) <| zpV ?_
   exact loop18C a b v3 vM hl hk d (i + 1) q _ _ _ (insC gJ x C) (by omega) (by omega) (get_set h1' (by decide)) (get_self h5') (.inl ⟨f, rfl⟩) (by omega) (fun L H2 v' i' g1 g5 g2 g4 gM => hr L H2 v' i' g1 g5 (by rw [g2, List.getElem?_set_ne (by decide), hfr 2 (by decide)]; exact List.getElem?_append_left (len_of h5 |> fun h => by omega)) (by rw [g4, List.getElem?_set_ne (by decide), hfr 3 (by decide)]; exact List.getElem?_append_left (len_of h5 |> fun h => by omega)) gM)
def EndsW (M : List Mem) (C : List Cop) (a : Ans) : Prop := ∃ f1 f2, Px.Ends E1 (VwT.mk M C f1 f2).av a
theorem fz_stM {H : Heap} {v : AV} {M : List Mem} (h : StM H v M) : ∃ f ns, fzG E1 (fun i => H[i]?) 59 v = some (.sl M.length (memC M) f, ns) := by
 rcases h with ⟨f, rfl⟩ | ⟨rfl, fr, h⟩
 ·exact ⟨f, [], rfl⟩
 ·exact ⟨false, [3], fzG_ownX (k := 58) h (memC_len M) (fzL_memC _ 57 M)⟩
theorem slice_own_hi {E : Env} {t e sz by' : Nat} {L V : List AV} {H : Heap} {a b : O} (R : RowT E t e sz by') {nm off n h : Nat} (ha : gO L V a = .own nm off n sz) (hb : gO L V b = .int .i64 (h : Int)) (hh : h ≤ n) :
  evalFA E L V H (.slice t a none (some b) none) = some (.val (.own nm off h sz), Acc.none) := by
 obtain ⟨it, h1, h2⟩ := R.ht
 obtain ⟨ie, h3, h4, h5⟩ := R.he
 subst h4
 simp [evalFA, sliceA, boundA, h1, h2, h3, ha, hb, hh]
theorem fz_own_part {E : Env} {g : Nat → Option AO} {k nm n sz e : Nat} {cs : List AV} {fr : Bool} (h : g nm = some (.row e cs fr)) (hl : n * sz ≤ cs.length) (hc : fzL (fzG E g k) cs = some (cs, [])) : fzG E g (k + 1) (.own nm 0 n sz) = some (.sl n (cs.take (n * sz)) false, [nm]) := by
 simp [fzG, h, hl, hc]
theorem end18 {kn : KB} {kx : Nat → KB} {k : Nat} (a b : VwT) (M : List Mem) (C : List Cop) (L : List AV) (H : Heap) (vM vC v3 v6 : AV) (rr : List AV) (hrr : rr.length = 2) (hC : C.length ≤ 10000) (h2 : H[2]? = some (.row 25 rr false)) (h5 : H[5]? = some (.row 25 [vM, vC] false)) (hM : StM H vM M) (hS : StC H vC C) :
  EndsW M (C.take 40) ((zSeq (zReg fun k' => (zP (vFieldAddr 1 (.v 5))) ((zL 1 false (.l 0)) ((zP (vFieldAddr 1 (.v 5))) ((zL 1 false (.l 0)) ((zP (vLenL (.l 0))) ((zStep E1 (CY k []) ⟨.most false [(.l 0), (.k (.int .i64 40))], .push, none, false, 5, none⟩) ((zStep E1 (CY k []) ⟨.slice 23 (.l 4) none (some (.l 0)) none, .push, none, false, 6, none⟩) ((zP (vFieldAddr 1 (.v 5))) ((zStep E1 (CY k []) ⟨.store 23 (.l 0) (.l 1), .none, none, false, 8, none⟩) k')))))))))
 (zSeq (zReg fun k' => (zL 2 true (.v 5)) ((zStep E1 (CY k []) ⟨.store 25 (.v 7) (.l 0), .none, none, false, 1, none⟩) k'))
 zRet)) kn kx (finZ E1 [.cell (.v 7) 25]) L [a.av, b.av, .loc 0 0, v3, .loc 1 0, .loc 5 0, v6, .loc 2 0] (rep H)) := by
 obtain ⟨x, y, rfl⟩ : ∃ x y, rr = [x, y] := by
  rcases rr with _ | ⟨x, _ | ⟨y, _ | ⟨z, r⟩⟩⟩ <;> simp at hrr
  exact ⟨x, y, rfl⟩
 have e40 : AV.int .i64 (min (C.length : Int) 40) = .int .i64 ((min C.length 40 : Nat) : Int) := by congr 1; omega
 have ht : copC (C.take 40) = (copC C).take (min C.length 40 * 3) := by
  rw [copC_take]
  by_cases h : C.length ≤ 40
  ·rw [List.take_of_length_le h, List.take_of_length_le (by omega)]
  ·rw [show min C.length 40 = 40 by omega]
 have hl : (C.take 40).length = min C.length 40 := by rw [List.length_take, Nat.min_comm]
 have hcl := copC_len C
 have hM5 : ∀ o o2, StM ((H.set 5 o).set 2 o2) vM M := fun o o2 => by
  rcases hM with h | ⟨h, fr, h3⟩
  ·exact .inl h
  ·exact .inr ⟨h, fr, get_set (get_set h3 (by decide)) (by decide)⟩
 obtain ⟨x', hx'⟩ : ∃ x', x' = (AV.sl 0 [] true) := ⟨_, rfl⟩
 rcases hS with ⟨f, rfl⟩ | ⟨rfl, fr, h4⟩
 ·obtain ⟨f1, ns, hz⟩ := fz_stM (hM5 (.row 25 [vM, .sl (min C.length 40) ((copC C).take (min C.length 40 * 3)) (f && (min C.length 40 == C.length))] false) (.row 25 [vM, .sl (min C.length 40) ((copC C).take (min C.length 40 * 3)) (f && (min C.length 40 == C.length))] false))
  refine ⟨f1, f && (min C.length 40 == C.length), ?_⟩
  rw [show (VwT.mk M (C.take 40) f1 (f && (min C.length 40 == C.length))).av = .agg [.sl M.length (memC M) f1, .sl (min C.length 40) ((copC C).take (min C.length 40 * 3)) (f && (min C.length 40 == C.length))] by rw [← ht, ← hl]; rfl]
  refine zpR <| st (zP_v (vFieldAddr_loc rfl)) <| st (zL_v (wL_loc rfl (by assumption) rfl rfl)) <| st (zP_v (vFieldAddr_loc rfl)) <| st (zL_v (wL_loc rfl (by assumption) rfl rfl)) <| st (zP_v (vLenL_sl rfl)) <| st (sP_val (ev_min rfl rfl)) <| st (sP_val (slice_sl_hi (h := min C.length 40) row23 rfl e40 hcl (by omega))) <| st (zP_v (vFieldAddr_loc rfl)) <| st (sN_put (ev_store rfl rfl (by assumption) ⟨_, rfl, rfl⟩ rfl rfl)) <| zpR <| st (zL_v (wL_loc rfl (get_self h5) rfl rfl)) <| st (sN_put (ev_store rfl rfl (get_set (by assumption) (by omega)) ⟨_, rfl, rfl⟩ rfl rfl)) <| st zRet_app ?_
  exact ends_cl rfl (get_self (get_set h2 (by decide))) ⟨_, rfl, rfl, rfl⟩ (fz_agg2 (k := 59) hz rfl)
 ·obtain ⟨f1, ns, hz⟩ := fz_stM (hM5 (.row 25 [vM, .own 4 0 (min C.length 40) 3] false) (.row 25 [vM, .own 4 0 (min C.length 40) 3] false))
  have h4' : ((H.set 5 (.row 25 [vM, .own 4 0 (min C.length 40) 3] false)).set 2 (.row 25 [vM, .own 4 0 (min C.length 40) 3] false))[4]? = some (.row 59 (copC C) fr) := get_set (get_set h4 (by decide)) (by decide)
  refine ⟨f1, false, ?_⟩
  rw [show (VwT.mk M (C.take 40) f1 false).av = .agg [.sl M.length (memC M) f1, .sl (min C.length 40) ((copC C).take (min C.length 40 * 3)) false] by rw [← ht, ← hl]; rfl]
  have hz2 := fz_own_part (k := 58) (n := min C.length 40) (sz := 3) (E := E1) (g := fun i => ((H.set 5 (.row 25 [vM, .own 4 0 (min C.length 40) 3] false)).set 2 (.row 25 [vM, .own 4 0 (min C.length 40) 3] false))[i]?) h4' (by omega) (fzL_copC _ 57 C)
  refine zpR <| st (zP_v (vFieldAddr_loc rfl)) <| st (zL_v (wL_loc rfl (by assumption) rfl rfl)) <| st (zP_v (vFieldAddr_loc rfl)) <| st (zL_v (wL_loc rfl (by assumption) rfl rfl)) <| st (zP_v (vLenL_own rfl)) <| st (sP_val (ev_min rfl rfl)) <| st (sP_val (slice_own_hi (h := min C.length 40) row23 rfl e40 (by omega))) <| st (zP_v (vFieldAddr_loc rfl)) <| st (sN_put (ev_store rfl rfl (by assumption) ⟨_, rfl, rfl⟩ rfl rfl)) <| zpR <| st (zL_v (wL_loc rfl (get_self h5) rfl rfl)) <| st (sN_put (ev_store rfl rfl (get_set (by assumption) (by omega)) ⟨_, rfl, rfl⟩ rfl rfl)) <| st zRet_app ?_
  exact ends_cl rfl (get_self (get_set h2 (by decide))) ⟨_, rfl, rfl, rfl⟩ (fz_agg2 (k := 59) hz hz2)
end Go.Proofs.PxV2
