/- Views: the search over members (printed by mem79.py out of the search over copies). -/
import Derived.Test.YtpdgbkmpcahjjaaPzV2B
set_option linter.unusedVariables false
set_option linter.unusedSimpArgs false
set_option maxRecDepth 100000
namespace Go.Proofs.PxV2
open Go Go.Px Go.Proofs
def lessI (a b : Int) : Bool := decide (a < b)
theorem lessI_trans {a b c : Int} (h1 : lessI a b = true) (h2 : lessI b c = true) : lessI a c = true := by
 simp [lessI] at *; omega
theorem cmpI_lt (a b : Int) : (cmpI a b < 0) ↔ lessI a b = true := by
 unfold cmpI lessI
 by_cases h : a < b
 ·simp [h]
 ·by_cases g : a > b <;> simp [h, g]
theorem cmpI_eq (a b : Int) : (cmpI a b = 0) ↔ a = b := by
 unfold cmpI
 by_cases h : a < b
 ·simp [h]; omega
 ·by_cases g : a > b
  ·simp [h, g]; omega
  ·simp [h, g]; omega
def tgtM (key tp : Int) : AV := .agg [iV key, .int .u64 tp]
def V79 (key tp : Int) (w : VwT) (i j h r8 r9 : AV) : List AV := [tgtM key tp, w.m, iV w.M.length, i, j, .clo 45 [], h, .loc 0 0, r8, r9]
noncomputable def body79 (call : CallTT) : CZ := xbody79 E1 call
def SortedM (C : List Mem) : Prop := C.Pairwise fun a b => lessI a.1 b.1 = true
theorem sortedM_at {C : List Mem} (h : SortedM C) {i j : Nat} {x y : Mem} (hij : i < j) (hx : C[i]? = some x) (hy : C[j]? = some y) : lessI x.1 y.1 = true := by
 obtain ⟨hi, rfl⟩ := List.getElem?_eq_some_iff.1 hx
 obtain ⟨hj, rfl⟩ := List.getElem?_eq_some_iff.1 hy
 exact List.pairwise_iff_getElem.1 h i j hi hj hij
theorem loop79 (k : Nat) (Y : YE) (key tp : Int) (w : VwT) (r8 r9 : AV) (hC : SortedM w.M) (hl : w.M.length < 100000) :
  ∀ (d i j q : Nat) (H : Heap) (h0 : AV) (L : List AV), i ≤ j → j ≤ w.M.length → j - i ≤ d → d < q → H[0]? = some (.row 55 [iV key, .int .u64 tp] false) →
  (∀ m x, m < i → w.M[m]? = some x → lessI x.1 key = true) → (∀ m x, j ≤ m → w.M[m]? = some x → lessI x.1 key = false) →
  ∃ L' H' i' h', (∀ kn kx kr, zLoop q (body79 (CY (k + 3) Y)) kn kx kr L (V79 key tp w (iV i) (iV j) h0 r8 r9) (rep H) = kx 0 L' (V79 key tp w (iV (i' : Nat)) (iV (i' : Nat)) h' r8 r9) (rep H')) ∧ H'[0]? = some (.row 55 [iV key, .int .u64 tp] false) ∧ i' ≤ w.M.length ∧
   (∀ m x, m < i' → w.M[m]? = some x → lessI x.1 key = true) ∧ (∀ m x, i' ≤ m → w.M[m]? = some x → lessI x.1 key = false) := by
 intro d
 induction d with
 | zero =>
  intro i j q H h0 L hij hj hd hq hr hp1 hp2
  obtain ⟨q', rfl⟩ : ∃ q', q = q' + 1 := ⟨q - 1, by omega⟩
  have : i = j := by omega
  subst this
  refine ⟨[.bool false], H, i, h0, fun kn kx kr => ?_, hr, hj, hp1, hp2⟩
  rw [zLoop_succ]
  unfold body79 xbody79
  refine zqA <| zqR <| (zP_v (vInt_eq fLss_ok rfl rfl (lss_nat 0 E1))).trans ?_
  rw [show decide (i < i) = false by simp]
  refine (zCond_eq (p := false) rfl).trans ?_
  rw [if_neg (by decide)]
  exact zExit_app
 | succ d ih =>
  intro i j q H h0 L hij hj hd hq hr hp1 hp2
  by_cases heq : i = j
  ·subst heq
   exact ih i i q H h0 L hij hj (by omega) (by omega) hr hp1 hp2
  obtain ⟨q', rfl⟩ : ∃ q', q = q' + 1 := ⟨q - 1, by omega⟩
  have hlt : i < j := by omega
  obtain ⟨h, hh⟩ : ∃ h, h = (i + j) / 2 := ⟨_, rfl⟩
  have hih : i ≤ h := by omega
  have hhj : h < j := by omega
  obtain ⟨⟨s, n⟩, hs⟩ : ∃ x, w.M[h]? = some x := ⟨w.M[h], by simp [show h < w.M.length by omega]⟩
  have hcl := memC_len w.M
  have hdp := mem_drop w.M h s n hs
  have w1 : IntKind.i64.wrap ((i : Int) + (j : Int)) = ((i + j : Nat) : Int) := by rw [IntKind.wrap_i64]; omega
  have w2 : IntKind.u64.wrap ((i + j : Nat) : Int) = ((i + j : Nat) : Int) := u64_wrap (by omega)
  have w3 : IntKind.i64.wrap (((i + j) / 2 : Nat) : Int) = ((h : Nat) : Int) := by rw [IntKind.wrap_i64, hh]; omega
  have w4 : IntKind.i64.wrap ((h : Int) + 1) = ((h + 1 : Nat) : Int) := by rw [IntKind.wrap_i64]; omega
  have hr1 : (H ++ List.replicate 1 AO.dead)[0]? = some (.row 55 [iV key, .int .u64 tp] false) := get_app hr
  have hc := c45 (k := k) Y (rep (H ++ List.replicate 1 AO.dead)) s key (n : Int) tp
  have front : ∃ Lf, ∀ kn kx kr, zLoop (q' + 1) (body79 (CY (k + 3) Y)) kn kx kr L (V79 key tp w (iV i) (iV j) h0 r8 r9) (rep H) = (zCond (.l 0) (zReg fun k => (zP (vInt E1 fAdd .add 3 false true (.v 6) (.k (.int .i64 1)))) ((zV 3 (vMv (.l 0))) k)) (zReg fun k => (zV 4 (vMv (.v 6))) k)) (zLoop q' (body79 (CY (k + 3) Y)) kn kx kr) (fun j L V H => ifZ (Nat.beq j 1) (zLoop q' (body79 (CY (k + 3) Y)) kn kx kr L V H) (kx j L V H)) kr (.bool (decide (cmpI s key < 0)) :: Lf) (V79 key tp w (iV i) (iV j) (iV h) r8 r9) (rep (H ++ List.replicate 1 AO.dead)) := by
   refine ⟨[iV (cmpI s key), tgtM key tp, .agg [iV s, .int .u64 (n : Int)], .ref (iV s :: .int .u64 (n : Int) :: (memC w.M).drop (h * 2 + 2))], fun kn kx kr => ?_⟩
   rw [zLoop_succ]
   conv => lhs; unfold body79 xbody79
   refine zqA <| zqR <| (zP_v (vInt_eq fLss_ok rfl rfl (lss_nat 0 E1))).trans ?_
   rw [show decide (i < j) = true by simp [hlt]]
   refine (zCond_eq (p := true) rfl).trans ?_
   rw [if_pos rfl]
   refine zqK <| zBlock_app.trans <| zqR <| (zP_v (vInt_eq fAdd_ok rfl rfl rfl)).trans ?_
   rw [w1]
   refine (zP_v (vConv_eq rfl)).trans ?_
   rw [w2]
   refine (zP_v (vBin_eq rfl rfl (shr1 (i + j)))).trans <| (zP_v (vConv_eq rfl)).trans ?_
   rw [w3]
   refine zqV <| zqA <| zDreg_eq.trans <| (zPD_v (vIndexAddr_sl (i := h) rfl rfl (show h < w.M.length by omega) (by omega))).trans ?_
   rw [hdp]
   refine (zLD_idle (wLoad_ref rfl (by simp) rfl) rfl).trans <| (zLD_v (wLoad_loc (nm := 0) (off := 0) rfl hr1 (by simp) rfl) rfl spOk_nil).trans ?_
   have ev : evalFA E1 [tgtM key tp, .agg [iV s, .int .u64 (n : Int)], .ref (iV s :: .int .u64 (n : Int) :: (memC w.M).drop (h * 2 + 2))] (V79 key tp w (iV i) (iV j) (iV h) r8 r9) (H ++ List.replicate 1 AO.dead) (.callv (.v 5) [(.l 1), (.l 0)]) = some (.call (.func 45) [.agg [iV s, .int .u64 (n : Int)], tgtM key tp], Acc.none) := rfl
   refine (zStepD_callI rfl ev rfl hc rfl).trans ?_
   exact zPD_v (vInt_eq fLss_ok rfl rfl rfl)
  obtain ⟨Lf, front⟩ := front
  cases hb : decide (cmpI s key < 0) with
  | true =>
   rw [hb] at front
   have hls : lessI s key = true := (cmpI_lt s key).1 (by simpa using hb)
   obtain ⟨L2, H2, i2, h2, e2, g2⟩ := ih (h + 1) j q' (H ++ List.replicate 1 AO.dead) (iV h) [.int .i64 ((h + 1 : Nat) : Int)] (by omega) hj (by omega) (by omega) hr1 (fun a x ha hx => by
    by_cases hah : a < h
    ·exact lessI_trans (sortedM_at hC hah hx hs) hls
    ·have : a = h := by omega
     subst this; rw [hs] at hx; cases hx; exact hls) hp2
   refine ⟨L2, H2, i2, h2, fun kn kx kr => ?_, g2⟩
   refine (front kn kx kr).trans <| (zCond_eq (p := true) rfl).trans ?_
   rw [if_pos rfl]
   refine zReg_eq.trans <| (zP_v (vInt_eq fAdd_ok rfl rfl rfl)).trans ?_
   rw [w4]
   refine zqV ?_
   exact e2 kn kx kr
  | false =>
   rw [hb] at front
   have hls : lessI s key = false := by
    cases hx : lessI s key with
    | false => rfl
    | true => have := (cmpI_lt s key).2 hx; simp at hb; omega
   obtain ⟨L2, H2, i2, h2, e2, g2⟩ := ih i h q' (H ++ List.replicate 1 AO.dead) (iV h) [] hih (by omega) (by omega) (by omega) hr1 hp1 (fun a x ha hx => by
    by_cases hah : h < a
    ·cases hx2 : lessI x.1 key with
     | false => rfl
     | true => have := lessI_trans (sortedM_at hC hah hs hx) hx2; rw [hls] at this; cases this
    ·have : a = h := by omega
     subst this; rw [hs] at hx; cases hx; exact hls)
   refine ⟨L2, H2, i2, h2, fun kn kx kr => ?_, g2⟩
   refine (front kn kx kr).trans <| (zCond_eq (p := false) rfl).trans ?_
   rw [if_neg (by decide)]
   refine zReg_eq.trans <| zqV ?_
   exact e2 kn kx kr
def posM (key : Int) : List Mem → Nat
 | [] => 0
 | c :: l => if lessI c.1 key = true then posM key l + 1 else 0
def hitM (key : Int) (C : List Mem) : Bool := match C[posM key C]? with
 | some c => c.1 == key
 | none => false
theorem posM_of : ∀ {C : List Mem} {key : Int} {i : Nat}, i ≤ C.length → (∀ m x, m < i → C[m]? = some x → lessI x.1 key = true) → (∀ m x, i ≤ m → C[m]? = some x → lessI x.1 key = false) → posM key C = i
 | [], key, i, hi, _, _ => by simp at hi; subst hi; rfl
 | c :: l, key, 0, hi, _, h2 => by
  have := h2 0 c (Nat.le_refl _) rfl
  simp [posM, this]
 | c :: l, key, i + 1, hi, h1, h2 => by
  have := h1 0 c (by omega) rfl
  have ih := posM_of (C := l) (key := key) (i := i) (by simp at hi; omega) (fun m x hm hx => h1 (m + 1) x (by omega) (by simpa using hx)) (fun m x hm hx => h2 (m + 1) x (by omega) (by simpa using hx))
  simp [posM, this, ih]
theorem search79 (k : Nat) (w : VwT) (key tp : Int) (hC : SortedM w.M) (hl : w.M.length < 100000) (hk : w.M.length < k) :
  ∃ H', bodyZ E1 (CY (k + 3)) [] (k + 3) (G79 E1) [w.m, tgtM key tp, .clo 45 []] (rep []) = some (.tup [iV (posM key w.M : Nat), .bool (hitM key w.M)], rep H') := by
 obtain ⟨L1, H1, i, h1, e1, hr, hi, p1, p2⟩ := loop79 k [] key tp w (iV 0) (.bool false) hC hl w.M.length 0 w.M.length (k + 3) [.row 55 [iV key, .int .u64 tp] false] .undef [] (by omega) (by omega) (by omega) (by omega) rfl (fun m x hm => by omega) (fun m x hm hx => by have := (List.getElem?_eq_some_iff.1 hx).1; omega)
 have e0 : ∀ q, bodyZ E1 (CY (k + 3)) [] q (G79 E1) [w.m, tgtM key tp, .clo 45 []] (rep []) = (G79 E1).z (CY (k + 3)) [] q (finZ E1 [.tmp (.v 8), .tmp (.v 9)]) (fun _ _ _ _ => none) (finZ E1 [.tmp (.v 8), .tmp (.v 9)]) [] [tgtM key tp, w.m, .undef, .undef, .undef, .clo 45 [], .undef, .undef, .undef, .undef] (rep []) := by intro q; kernel_rfl
 have hr1 : (H1 ++ List.replicate 1 AO.dead)[0]? = some (.row 55 [iV key, .int .u64 tp] false) := get_app hr
 have front : ∀ (r : AV × TH), ((zSeq (zDreg 1 fun n0 k' => (zPD (vInt E1 fLss .lss 3 false false (.v 3) (.v 2))) ((zGD (.l 0) true .push (zPD (vMv (.v 5)))) ((zGD (.l 1) true .push (zPD (vMv (.v 1)))) ((zGD (.l 2) true .push (zPD (vMv (.v 3)))) ((zGD (.l 3) true .push (zPD (vIndexAddr 2 (.l 1) (.l 0)))) ((zGD (.l 4) true .push (zLD B23 9 2 true (.l 0))) ((zGD (.l 5) true .push (zLD B23 10 2 true (.v 7))) ((zGD (.l 6) true .push (zStepD E1 (CY (k + 3) []) B23 n0 ⟨.callv (.l 5) [(.l 1), (.l 0)], .push, none, false, 11, (some 0)⟩)) ((zGD (.l 7) true .push (zPD (vInt E1 fEql .eql 3 false true (.l 0) (.k (.int .i64 0))))) ((zPD (vPick (.l 8) (.l 0) (.k (.bool false)))) ((zVD 8 (vMv (.v 3))) ((zVD 9 (vMv (.l 0))) k')))))))))))) zRet) (finZ E1 [.tmp (.v 8), .tmp (.v 9)]) (fun _ _ _ _ => none) (finZ E1 [.tmp (.v 8), .tmp (.v 9)])) L1 (V79 key tp w (iV (i : Nat)) (iV (i : Nat)) h1 (iV 0) (.bool false)) (rep H1) = some r → bodyZ E1 (CY (k + 3)) [] (k + 3) (G79 E1) [w.m, tgtM key tp, .clo 45 []] (rep []) = some r := fun r hh => by
  refine (e0 _).trans ?_
  unfold G79
  dsimp only
  refine zqR ?_
  refine (zStep_newH rfl (box55 (x := iV key) (y := .int .u64 tp) rfl)).trans ?_
  refine zqV <| zqV <| zqR <| (zP_v (vLenL_sl rfl)).trans <| zqV <| zqR <| zqV <| zqV <| zqA <| zBlock_app.trans <| (e1 _ _ _).trans ?_
  rw [ifZ_eq, if_pos (by rfl)]
  exact hh
 have hp : posM key w.M = i := posM_of hi p1 p2
 by_cases hlt : i < w.M.length
 ·obtain ⟨⟨s, n⟩, hs⟩ : ∃ x, w.M[i]? = some x := ⟨w.M[i], by simp [hlt]⟩
  have hcl := memC_len w.M
  have hdp := mem_drop w.M i s n hs
  have hc := c45 (k := k) [] (rep (H1 ++ List.replicate 1 AO.dead)) s key (n : Int) tp
  rw [hp, show hitM key w.M = (cmpI s key == 0) by
   unfold hitM; rw [hp, hs]; simp only
   rw [Bool.eq_iff_iff]; simp [cmpI_eq]]
  refine ⟨H1 ++ List.replicate 1 AO.dead, front _ ?_⟩
  ·refine zqA <| zDreg_eq.trans <| (zPD_v (vInt_eq fLss_ok rfl rfl (lss_nat 0 E1))).trans ?_
   rw [show decide (i < w.M.length) = true by simp [hlt]]
   refine zqH rfl <| (zPD_v vMv_eq).trans <| zqH rfl <| (zPD_v vMv_eq).trans <| zqH rfl <| (zPD_v vMv_eq).trans <| zqH rfl <| (zPD_v (vIndexAddr_sl rfl rfl hlt (by omega))).trans ?_
   rw [hdp]
   refine zqH rfl <| (zLD_idle (wLoad_ref rfl (by simp) rfl) rfl).trans <| zqH rfl <| (zLD_v (wLoad_loc (nm := 0) (off := 0) rfl hr1 (by simp) rfl) rfl spOk_nil).trans <| zqH rfl ?_
   have ev : evalFA E1 [tgtM key tp, .agg [iV s, .int .u64 (n : Int)], .ref (iV s :: .int .u64 (n : Int) :: (memC w.M).drop (i * 2 + 2)), iV (i : Nat), w.m, .clo 45 [], .bool true] (V79 key tp w (iV (i : Nat)) (iV (i : Nat)) h1 (iV 0) (.bool false)) (H1 ++ List.replicate 1 AO.dead) (.callv (.l 5) [(.l 1), (.l 0)]) = some (.call (.func 45) [.agg [iV s, .int .u64 (n : Int)], tgtM key tp], Acc.none) := rfl
   refine (zStepD_callI rfl ev rfl hc rfl).trans <| zqH rfl <| (zPD_v (vInt_eq fEql_ok rfl rfl rfl)).trans <| (zPD_v (vPick_eq (q := true) rfl)).trans <| (zVD_v vMv_eq).trans <| (zVD_v vMv_eq).trans <| zRet_app.trans ?_
   rfl
 ·rw [hp, show hitM key w.M = false by
   unfold hitM; rw [hp, List.getElem?_eq_none (by omega)]]
  refine ⟨H1 ++ List.replicate 1 AO.dead, front _ ?_⟩
  refine zqA <| zDreg_eq.trans <| (zPD_v (vInt_eq fLss_ok rfl rfl (lss_nat 0 E1))).trans ?_
  rw [show decide (i < w.M.length) = false by simp; omega]
  refine zqM rfl <| zqM rfl <| zqM rfl <| zqM rfl <| zqM rfl <| zqM rfl <| zqM rfl <| zqM rfl <| (zPD_v (vPick_eq (q := false) rfl)).trans <| (zVD_v vMv_eq).trans <| (zVD_v vMv_eq).trans <| zRet_app.trans ?_
  rfl
theorem posM_le : ∀ (key : Int) (C : List Mem), posM key C ≤ C.length
 | _, [] => Nat.le_refl _
 | key, c :: l => by unfold posM; split <;> simp [posM_le key l]
end Go.Proofs.PxV2
