/- Views: slices.BinarySearchFunc at copies; find; Of. -/
import Derived.Test.YtpdgbkmpcahjjaaPzV2Z3
set_option linter.unusedVariables false
set_option linter.unusedSimpArgs false
set_option maxRecDepth 100000
namespace Go.Proofs.PxV2
open Go Go.Px Go.Proofs
theorem shr1 (x : Nat) : binB E1 .shr 46 false true (.int .u64 (x : Int)) (.int .u64 1) = some (.int .u64 ((x / 2 : Nat) : Int)) := by
 simp [binB, binB0, IntKind.bits]
 rw [Int.fdiv_eq_ediv_of_nonneg _ (by decide)]
def tgtV (key : List Nat) (tp tq : Int) : AV := .agg [.str key, .int .u64 tp, .int .u64 tq]
def V75 (key : List Nat) (tp tq : Int) (w : VwT) (i j h r8 r9 : AV) : List AV := [tgtV key tp tq, w.c, iV w.C.length, i, j, .clo 50 [], h, .loc 0 0, r8, r9]
noncomputable def body75 (call : CallTT) : CZ := xbody75 E1 call
def SortedC (C : List Cop) : Prop := C.Pairwise fun a b => lessN a.1 b.1 = true
theorem sorted_at {C : List Cop} (h : SortedC C) {i j : Nat} {x y : Cop} (hij : i < j) (hx : C[i]? = some x) (hy : C[j]? = some y) : lessN x.1 y.1 = true := by
 obtain ⟨hi, rfl⟩ := List.getElem?_eq_some_iff.1 hx
 obtain ⟨hj, rfl⟩ := List.getElem?_eq_some_iff.1 hy
 exact List.pairwise_iff_getElem.1 h i j hi hj hij
theorem loop75 (k : Nat) (Y : YE) (key : List Nat) (tp tq : Int) (w : VwT) (r8 r9 : AV) (hC : SortedC w.C) (hl : w.C.length < 100000) :
  ∀ (d i j q : Nat) (H : Heap) (h0 : AV) (L : List AV), i ≤ j → j ≤ w.C.length → j - i ≤ d → d < q → H[0]? = some (.row 59 [.str key, .int .u64 tp, .int .u64 tq] false) →
  (∀ m x, m < i → w.C[m]? = some x → lessN x.1 key = true) → (∀ m x, j ≤ m → w.C[m]? = some x → lessN x.1 key = false) →
  ∃ L' H' i' h', (∀ kn kx kr, zLoop q (body75 (CY (k + 3) Y)) kn kx kr L (V75 key tp tq w (iV i) (iV j) h0 r8 r9) (rep H) = kx 0 L' (V75 key tp tq w (iV (i' : Nat)) (iV (i' : Nat)) h' r8 r9) (rep H')) ∧ H'[0]? = some (.row 59 [.str key, .int .u64 tp, .int .u64 tq] false) ∧ i' ≤ w.C.length ∧
   (∀ m x, m < i' → w.C[m]? = some x → lessN x.1 key = true) ∧ (∀ m x, i' ≤ m → w.C[m]? = some x → lessN x.1 key = false) := by
 intro d
 induction d with
 | zero =>
  intro i j q H h0 L hij hj hd hq hr hp1 hp2
  obtain ⟨q', rfl⟩ : ∃ q', q = q' + 1 := ⟨q - 1, by omega⟩
  have : i = j := by omega
  subst this
  refine ⟨[.bool false], H, i, h0, fun kn kx kr => ?_, hr, hj, hp1, hp2⟩
  rw [zLoop_succ]
  unfold body75 xbody75
  refine zqA <| zqR <| (zP_v (vInt_eq fLss_ok rfl rfl (lss_nat 0 E1))).trans ?_
  rw [show decide (i < i) = false by simp]
  refine (zCond_eq (p := false) rfl).trans ?_
  rw [if_neg (by decide)]
  exact zExit_app
 | succ d ih =>
  intro i j q H h0 L hij hj hd hq hr hp1 hp2
  by_cases heq : i = j
  ·subst heq
   exact ih i i q H h0 L hij hj (by omega) (by omega) hr hp1 hp2
  obtain ⟨q', rfl⟩ : ∃ q', q = q' + 1 := ⟨q - 1, by omega⟩
  have hlt : i < j := by omega
  obtain ⟨h, hh⟩ : ∃ h, h = (i + j) / 2 := ⟨_, rfl⟩
  have hih : i ≤ h := by omega
  have hhj : h < j := by omega
  obtain ⟨⟨s, n, m⟩, hs⟩ : ∃ x, w.C[h]? = some x := ⟨w.C[h], by simp [show h < w.C.length by omega]⟩
  have hcl := copC_len w.C
  have hdp := cop_drop w.C h s n m hs
  have w1 : IntKind.i64.wrap ((i : Int) + (j : Int)) = ((i + j : Nat) : Int) := by rw [IntKind.wrap_i64]; omega
  have w2 : IntKind.u64.wrap ((i + j : Nat) : Int) = ((i + j : Nat) : Int) := u64_wrap (by omega)
  have w3 : IntKind.i64.wrap (((i + j) / 2 : Nat) : Int) = ((h : Nat) : Int) := by rw [IntKind.wrap_i64, hh]; omega
  have w4 : IntKind.i64.wrap ((h : Int) + 1) = ((h + 1 : Nat) : Int) := by rw [IntKind.wrap_i64]; omega
  have hr1 : (H ++ List.replicate 1 AO.dead)[0]? = some (.row 59 [.str key, .int .u64 tp, .int .u64 tq] false) := get_app hr
  have hc := c50 (k := k) Y (rep (H ++ List.replicate 1 AO.dead)) s key (n : Int) (m : Int) tp tq
  have front : ∃ Lf, ∀ kn kx kr, zLoop (q' + 1) (body75 (CY (k + 3) Y)) kn kx kr L (V75 key tp tq w (iV i) (iV j) h0 r8 r9) (rep H) = (zCond (.l 0) (zReg fun k => (zP (vInt E1 fAdd .add 3 false true (.v 6) (.k (.int .i64 1)))) ((zV 3 (vMv (.l 0))) k)) (zReg fun k => (zV 4 (vMv (.v 6))) k)) (zLoop q' (body75 (CY (k + 3) Y)) kn kx kr) (fun j L V H => ifZ (Nat.beq j 1) (zLoop q' (body75 (CY (k + 3) Y)) kn kx kr L V H) (kx j L V H)) kr (.bool (decide (cmpN s key < 0)) :: Lf) (V75 key tp tq w (iV i) (iV j) (iV h) r8 r9) (rep (H ++ List.replicate 1 AO.dead)) := by
   refine ⟨[iV (cmpN s key), tgtV key tp tq, .agg [.str s, .int .u64 (n : Int), .int .u64 (m : Int)], .ref (.str s :: .int .u64 (n : Int) :: .int .u64 (m : Int) :: (copC w.C).drop (h * 3 + 3))], fun kn kx kr => ?_⟩
   rw [zLoop_succ]
   conv => lhs; unfold body75 xbody75
   refine zqA <| zqR <| (zP_v (vInt_eq fLss_ok rfl rfl (lss_nat 0 E1))).trans ?_
   rw [show decide (i < j) = true by simp [hlt]]
   refine (zCond_eq (p := true) rfl).trans ?_
   rw [if_pos rfl]
   refine zqK <| zBlock_app.trans <| zqR <| (zP_v (vInt_eq fAdd_ok rfl rfl rfl)).trans ?_
   rw [w1]
   refine (zP_v (vConv_eq rfl)).trans ?_
   rw [w2]
   refine (zP_v (vBin_eq rfl rfl (shr1 (i + j)))).trans <| (zP_v (vConv_eq rfl)).trans ?_
   rw [w3]
   refine zqV <| zqA <| zDreg_eq.trans <| (zPD_v (vIndexAddr_sl (i := h) rfl rfl (show h < w.C.length by omega) (by omega))).trans ?_
   rw [hdp]
   refine (zLD_idle (wLoad_ref rfl (by simp) rfl) rfl).trans <| (zLD_v (wLoad_loc (nm := 0) (off := 0) rfl hr1 (by simp) rfl) rfl spOk_nil).trans ?_
   have ev : evalFA E1 [tgtV key tp tq, .agg [.str s, .int .u64 (n : Int), .int .u64 (m : Int)], .ref (.str s :: .int .u64 (n : Int) :: .int .u64 (m : Int) :: (copC w.C).drop (h * 3 + 3))] (V75 key tp tq w (iV i) (iV j) (iV h) r8 r9) (H ++ List.replicate 1 AO.dead) (.callv (.v 5) [(.l 1), (.l 0)]) = some (.call (.func 50) [.agg [.str s, .int .u64 (n : Int), .int .u64 (m : Int)], tgtV key tp tq], Acc.none) := rfl
   refine (zStepD_callI rfl ev rfl hc rfl).trans ?_
   exact zPD_v (vInt_eq fLss_ok rfl rfl rfl)
  obtain ⟨Lf, front⟩ := front
  cases hb : decide (cmpN s key < 0) with
  | true =>
   rw [hb] at front
   have hls : lessN s key = true := (cmpN_lt s key).1 (by simpa using hb)
   obtain ⟨L2, H2, i2, h2, e2, g2⟩ := ih (h + 1) j q' (H ++ List.replicate 1 AO.dead) (iV h) [.int .i64 ((h + 1 : Nat) : Int)] (by omega) hj (by omega) (by omega) hr1 (fun a x ha hx => by
    by_cases hah : a < h
    ·exact less_trans (sorted_at hC hah hx hs) hls
    ·have : a = h := by omega
     subst this; rw [hs] at hx; cases hx; exact hls) hp2
   refine ⟨L2, H2, i2, h2, fun kn kx kr => ?_, g2⟩
   refine (front kn kx kr).trans <| (zCond_eq (p := true) rfl).trans ?_
   rw [if_pos rfl]
   refine zReg_eq.trans <| (zP_v (vInt_eq fAdd_ok rfl rfl rfl)).trans ?_
   rw [w4]
   refine zqV ?_
   exact e2 kn kx kr
  | false =>
   rw [hb] at front
   have hls : lessN s key = false := by
    cases hx : lessN s key with
    | false => rfl
    | true => have := (cmpN_lt s key).2 hx; simp at hb; omega
   obtain ⟨L2, H2, i2, h2, e2, g2⟩ := ih i h q' (H ++ List.replicate 1 AO.dead) (iV h) [] hih (by omega) (by omega) (by omega) hr1 hp1 (fun a x ha hx => by
    by_cases hah : h < a
    ·cases hx2 : lessN x.1 key with
     | false => rfl
     | true => have := less_trans (sorted_at hC hah hs hx) hx2; rw [hls] at this; cases this
    ·have : a = h := by omega
     subst this; rw [hs] at hx; cases hx; exact hls)
   refine ⟨L2, H2, i2, h2, fun kn kx kr => ?_, g2⟩
   refine (front kn kx kr).trans <| (zCond_eq (p := false) rfl).trans ?_
   rw [if_neg (by decide)]
   refine zReg_eq.trans <| zqV ?_
   exact e2 kn kx kr
end Go.Proofs.PxV2
