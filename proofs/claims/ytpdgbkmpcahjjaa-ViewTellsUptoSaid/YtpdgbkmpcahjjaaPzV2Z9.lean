/- Views: IsView (printed by genview2.py). -/
import Derived.Test.YtpdgbkmpcahjjaaPzV2Z8
set_option linter.unusedVariables false
set_option linter.unusedSimpArgs false
set_option maxRecDepth 100000
namespace Go.Proofs.PxV2
open Go Go.Px Go.Proofs
structure OkV (w : VwT) : Prop where
 m : w.M.length < 40
 i : ∀ x ∈ w.M, I64 x.1
 c : w.C.length < 400
 s : SortedC w.C
theorem inN_len (l : List Mem) : (inN l).length ≤ l.length := by
 unfold inN; rw [List.length_map]; exact List.length_filter_le _ _
noncomputable def body11M (call : CallTT) : CZ := (zSeq (zSeq (zReg fun k => (zP (vFieldAddr 0 (.v 2))) ((zL 1 false (.l 0)) ((zP (vLenL (.l 0))) ((zP (vInt E1 fLss .lss 3 false false (.v 1) (.l 0))) k))))
 (zCond (.l 0) zSkip (zExit 0)))
 (zSeq (zBlock 1 (zSeq (zReg fun k => (zP (vFieldAddr 0 (.v 2))) ((zL 1 false (.l 0)) ((zP (vIndexAddr 2 (.l 0) (.v 1))) ((zL 2 true (.l 0)) ((zStep E1 call ⟨.alloc 55, (.var 3), none, false, 5, (some 0)⟩) ((zStep E1 call ⟨.store 55 (.v 3) (.l 0), .none, none, false, 6, none⟩) k))))))
 (zSeq cM
 (zCond (.l 0) (zSeq (zReg fun k => (zV 6 (vMv (.k (.bool false)))) k)
 zRet) zSkip))))
 (zReg fun k => (zP (vMv (.v 1))) ((zP (vInt E1 fAdd .add 3 false true (.l 0) (.k (.int .i64 1)))) ((zV 1 (vMv (.l 0))) k)))))
noncomputable def body11C (call : CallTT) : CZ := (zSeq (zSeq (zReg fun k => (zP (vFieldAddr 1 (.v 2))) ((zL 1 false (.l 0)) ((zP (vLenL (.l 0))) ((zP (vInt E1 fLss .lss 3 false false (.v 4) (.l 0))) k))))
 (zCond (.l 0) zSkip (zExit 2)))
 (zSeq (zBlock 3 (zSeq (zReg fun k => (zP (vFieldAddr 1 (.v 2))) ((zL 1 false (.l 0)) ((zP (vIndexAddr 3 (.l 0) (.v 4))) ((zL 3 true (.l 0)) ((zStep E1 call ⟨.alloc 59, (.var 5), none, false, 5, (some 0)⟩) ((zStep E1 call ⟨.store 59 (.v 5) (.l 0), .none, none, false, 6, none⟩) k))))))
 (zSeq cC
 (zCond (.l 0) (zSeq (zReg fun k => (zV 6 (vMv (.k (.bool false)))) k)
 zRet) zSkip))))
 (zReg fun k => (zP (vMv (.v 4))) ((zP (vInt E1 fAdd .add 3 false true (.l 0) (.k (.int .i64 1)))) ((zV 4 (vMv (.l 0))) k)))))
def goodN (bad : Nat → Bool) : Nat → Nat → Bool
 | _, 0 => true
 | i, d + 1 => !bad i && goodN bad (i + 1) d
theorem loop11M (call : CallTT) (w : VwT) (hb : w.M.length ≤ maxLen) :
  ∀ (d i q : Nat) (H : Heap) (vr : AV) (L : List AV), i + d = w.M.length → d < q → H[0]? = some (.row 25 [w.m, w.c] false) →
  ∃ L' H' v1' vr', H'[0]? = some (.row 25 [w.m, w.c] false) ∧ ∀ kn kx kr, zLoop q (body11M call) kn kx kr L (V11 w (iV i) vr .undef .undef (.bool false)) (rep H) = if goodN (badM w.M) i d then kx 0 L' (V11 w v1' vr' .undef .undef (.bool false)) (rep H') else kr L' (V11 w v1' vr' .undef .undef (.bool false)) (rep H')
 | 0, i, q, H, vr, L, hi, hq, h0 => by
  obtain ⟨q', rfl⟩ : ∃ q', q = q' + 1 := ⟨q - 1, by omega⟩
  have hil : i = w.M.length := by omega
  subst hil
  refine ⟨[.bool false, .int .i64 w.M.length, w.m, .loc 0 (0 + 0)], H, iV w.M.length, vr, h0, fun kn kx kr => ?_⟩
  rw [show goodN (badM w.M) w.M.length 0 = true from rfl, if_pos rfl, zLoop_succ]
  unfold body11M
  refine zqA <| zqR <| (zP_v (vFieldAddr_loc rfl)).trans <| (zL_v (wLoad_loc (nm := 0) (off := 0 + 0) rfl h0 (by simp) rfl)).trans <| (zP_v (vLenL_sl rfl)).trans <| (zP_v (vInt_eq fLss_ok rfl rfl (lss_nat 0 E1))).trans ?_
  rw [show decide (w.M.length < w.M.length) = false by simp]
  refine (zCond_eq (p := false) rfl).trans ?_
  rw [if_neg (by decide)]
  exact zExit_app
 | d + 1, i, q, H, vr, L, hi, hq, h0 => by
  obtain ⟨q', rfl⟩ : ∃ q', q = q' + 1 := ⟨q - 1, by omega⟩
  have hml : maxLen = 9223372036854775807 := rfl
  have hlt : i < w.M.length := by omega
  obtain ⟨⟨dd, n⟩, hs⟩ : ∃ x, w.M[i]? = some x := ⟨w.M[i], by simp [hlt]⟩
  have hw : IntKind.i64.wrap ((i : Int) + 1) = ((i + 1 : Nat) : Int) := by rw [IntKind.wrap_i64]; omega
  have hcl := memC_len w.M
  have hd := mem_drop w.M i dd n hs
  obtain ⟨H1, eH1⟩ : ∃ H1, H1 = H ++ [AO.row 55 [iV dd, .int .u64 (n : Int)] false] := ⟨_, rfl⟩
  have hr1 : H1[H.length]? = some (.row 55 [iV dd, .int .u64 (n : Int)] false) := by rw [eH1]; exact get_last
  have h01 : H1[0]? = some (.row 25 [w.m, w.c] false) := by rw [eH1]; exact get_app h0
  obtain ⟨Lc, hc⟩ := condM w H1 i H.length dd n .undef .undef (.bool false) [.agg [iV dd, .int .u64 (n : Int)], .ref (iV dd :: .int .u64 (n : Int) :: (memC w.M).drop (i * 2 + 2)), w.m, .loc 0 (0 + 0)] h01 hr1 hs hb
  have front : ∀ kn kx kr, zLoop (q' + 1) (body11M call) kn kx kr L (V11 w (iV i) vr .undef .undef (.bool false)) (rep H) = (zCond (.l 0) (zSeq (zReg fun k => (zV 6 (vMv (.k (.bool false)))) k) zRet) zSkip) ((zReg fun k => (zP (vMv (.v 1))) ((zP (vInt E1 fAdd .add 3 false true (.l 0) (.k (.int .i64 1)))) ((zV 1 (vMv (.l 0))) k))) (zLoop q' (body11M call) kn kx kr) kx kr) (fun j L V H => ifZ (Nat.beq j 1) ((zReg fun k => (zP (vMv (.v 1))) ((zP (vInt E1 fAdd .add 3 false true (.l 0) (.k (.int .i64 1)))) ((zV 1 (vMv (.l 0))) k))) (zLoop q' (body11M call) kn kx kr) kx kr L V H) (kx j L V H)) kr (.bool (badM w.M i) :: Lc) (V11 w (iV i) (.loc H.length 0) .undef .undef (.bool false)) (rep H1) := by
   intro kn kx kr
   rw [zLoop_succ]
   conv => lhs; unfold body11M
   refine zqA <| zqR <| (zP_v (vFieldAddr_loc rfl)).trans <| (zL_v (wLoad_loc (nm := 0) (off := 0 + 0) rfl h0 (by simp) rfl)).trans <| (zP_v (vLenL_sl rfl)).trans <| (zP_v (vInt_eq fLss_ok rfl rfl (lss_nat 0 E1))).trans ?_
   rw [show decide (i < w.M.length) = true by simp [hlt]]
   refine (zCond_eq (p := true) rfl).trans ?_
   rw [if_pos rfl]
   refine zqK <| zqA <| zBlock_app.trans <| zqR <| (zP_v (vFieldAddr_loc rfl)).trans <| (zL_v (wLoad_loc (nm := 0) (off := 0 + 0) rfl h0 (by simp) rfl)).trans <| (zP_v (vIndexAddr_sl rfl rfl hlt (by omega))).trans ?_
   rw [hd]
   refine (zL_v (wLoad_ref rfl (by simp) rfl)).trans ?_
   refine (zStep_newH rfl alloc55).trans ?_
   refine (zStep_putH rfl (store55 (nm := H.length) rfl get_last rfl)).trans ?_
   rw [set_app_last, ← eH1]
   refine zqA ?_
   exact hc _ _ _
  cases hbad : badM w.M i with
  | true =>
   rw [hbad] at front
   refine ⟨[], H1, iV i, .loc H.length 0, h01, fun kn kx kr => ?_⟩
   rw [show goodN (badM w.M) i (d + 1) = false by simp [goodN, hbad], if_neg (by decide)]
   refine (front kn kx kr).trans <| (zCond_eq (p := true) rfl).trans ?_
   rw [if_pos rfl]
   refine zqR <| zqV ?_
   exact zRet_app
  | false =>
   rw [hbad] at front
   obtain ⟨L2, H2, v12, vr2, h02, e2⟩ := loop11M call w hb d (i + 1) q' H1 (.loc H.length 0) [.int .i64 ((i + 1 : Nat) : Int), iV i] (by omega) (by omega) h01
   refine ⟨L2, H2, v12, vr2, h02, fun kn kx kr => ?_⟩
   rw [show goodN (badM w.M) i (d + 1) = goodN (badM w.M) (i + 1) d by simp [goodN, hbad]]
   refine (front kn kx kr).trans <| (zCond_eq (p := false) rfl).trans ?_
   rw [if_neg (by decide)]
   refine zqK <| zReg_eq.trans <| (zP_v vMv_eq).trans <| (zP_v (vInt_eq fAdd_ok rfl rfl rfl)).trans ?_
   rw [hw]
   refine zqV ?_
   exact e2 kn kx kr
theorem loop11C (call : CallTT) (w : VwT) (hb : w.C.length ≤ maxLen) (v1 v3 : AV) :
  ∀ (d i q : Nat) (H : Heap) (vr : AV) (L : List AV), i + d = w.C.length → d < q → H[0]? = some (.row 25 [w.m, w.c] false) →
  ∃ L' H' v1' vr', H'[0]? = some (.row 25 [w.m, w.c] false) ∧ ∀ kn kx kr, zLoop q (body11C call) kn kx kr L (V11 w v1 v3 (iV i) vr (.bool false)) (rep H) = if goodN (badC w.C) i d then kx 2 L' (V11 w v1 v3 v1' vr' (.bool false)) (rep H') else kr L' (V11 w v1 v3 v1' vr' (.bool false)) (rep H')
 | 0, i, q, H, vr, L, hi, hq, h0 => by
  obtain ⟨q', rfl⟩ : ∃ q', q = q' + 1 := ⟨q - 1, by omega⟩
  have hil : i = w.C.length := by omega
  subst hil
  refine ⟨[.bool false, .int .i64 w.C.length, w.c, .loc 0 (0 + 1)], H, iV w.C.length, vr, h0, fun kn kx kr => ?_⟩
  rw [show goodN (badC w.C) w.C.length 0 = true from rfl, if_pos rfl, zLoop_succ]
  unfold body11C
  refine zqA <| zqR <| (zP_v (vFieldAddr_loc rfl)).trans <| (zL_v (wLoad_loc (nm := 0) (off := 0 + 1) rfl h0 (by simp) rfl)).trans <| (zP_v (vLenL_sl rfl)).trans <| (zP_v (vInt_eq fLss_ok rfl rfl (lss_nat 0 E1))).trans ?_
  rw [show decide (w.C.length < w.C.length) = false by simp]
  refine (zCond_eq (p := false) rfl).trans ?_
  rw [if_neg (by decide)]
  exact zExit_app
 | d + 1, i, q, H, vr, L, hi, hq, h0 => by
  obtain ⟨q', rfl⟩ : ∃ q', q = q' + 1 := ⟨q - 1, by omega⟩
  have hml : maxLen = 9223372036854775807 := rfl
  have hlt : i < w.C.length := by omega
  obtain ⟨⟨s, n, m⟩, hs⟩ : ∃ x, w.C[i]? = some x := ⟨w.C[i], by simp [hlt]⟩
  have hw : IntKind.i64.wrap ((i : Int) + 1) = ((i + 1 : Nat) : Int) := by rw [IntKind.wrap_i64]; omega
  have hcl := copC_len w.C
  have hd := cop_drop w.C i s n m hs
  obtain ⟨H1, eH1⟩ : ∃ H1, H1 = H ++ [AO.row 59 [.str s, .int .u64 (n : Int), .int .u64 (m : Int)] false] := ⟨_, rfl⟩
  have hr1 : H1[H.length]? = some (.row 59 [.str s, .int .u64 (n : Int), .int .u64 (m : Int)] false) := by rw [eH1]; exact get_last
  have h01 : H1[0]? = some (.row 25 [w.m, w.c] false) := by rw [eH1]; exact get_app h0
  obtain ⟨Lc, hc⟩ := condC w H1 i H.length s n m v1 v3 (.bool false) [.agg [.str s, .int .u64 (n : Int), .int .u64 (m : Int)], .ref (.str s :: .int .u64 (n : Int) :: .int .u64 (m : Int) :: (copC w.C).drop (i * 3 + 3)), w.c, .loc 0 (0 + 1)] h01 hr1 hs hb
  have front : ∀ kn kx kr, zLoop (q' + 1) (body11C call) kn kx kr L (V11 w v1 v3 (iV i) vr (.bool false)) (rep H) = (zCond (.l 0) (zSeq (zReg fun k => (zV 6 (vMv (.k (.bool false)))) k) zRet) zSkip) ((zReg fun k => (zP (vMv (.v 4))) ((zP (vInt E1 fAdd .add 3 false true (.l 0) (.k (.int .i64 1)))) ((zV 4 (vMv (.l 0))) k))) (zLoop q' (body11C call) kn kx kr) kx kr) (fun j L V H => ifZ (Nat.beq j 3) ((zReg fun k => (zP (vMv (.v 4))) ((zP (vInt E1 fAdd .add 3 false true (.l 0) (.k (.int .i64 1)))) ((zV 4 (vMv (.l 0))) k))) (zLoop q' (body11C call) kn kx kr) kx kr L V H) (kx j L V H)) kr (.bool (badC w.C i) :: Lc) (V11 w v1 v3 (iV i) (.loc H.length 0) (.bool false)) (rep H1) := by
   intro kn kx kr
   rw [zLoop_succ]
   conv => lhs; unfold body11C
   refine zqA <| zqR <| (zP_v (vFieldAddr_loc rfl)).trans <| (zL_v (wLoad_loc (nm := 0) (off := 0 + 1) rfl h0 (by simp) rfl)).trans <| (zP_v (vLenL_sl rfl)).trans <| (zP_v (vInt_eq fLss_ok rfl rfl (lss_nat 0 E1))).trans ?_
   rw [show decide (i < w.C.length) = true by simp [hlt]]
   refine (zCond_eq (p := true) rfl).trans ?_
   rw [if_pos rfl]
   refine zqK <| zqA <| zBlock_app.trans <| zqR <| (zP_v (vFieldAddr_loc rfl)).trans <| (zL_v (wLoad_loc (nm := 0) (off := 0 + 1) rfl h0 (by simp) rfl)).trans <| (zP_v (vIndexAddr_sl rfl rfl hlt (by omega))).trans ?_
   rw [hd]
   refine (zL_v (wLoad_ref rfl (by simp) rfl)).trans ?_
   refine (zStep_newH rfl alloc59).trans ?_
   refine (zStep_putH rfl (store59 (nm := H.length) rfl get_last rfl)).trans ?_
   rw [set_app_last, ← eH1]
   refine zqA ?_
   exact hc _ _ _
  cases hbad : badC w.C i with
  | true =>
   rw [hbad] at front
   refine ⟨[], H1, iV i, .loc H.length 0, h01, fun kn kx kr => ?_⟩
   rw [show goodN (badC w.C) i (d + 1) = false by simp [goodN, hbad], if_neg (by decide)]
   refine (front kn kx kr).trans <| (zCond_eq (p := true) rfl).trans ?_
   rw [if_pos rfl]
   refine zqR <| zqV ?_
   exact zRet_app
  | false =>
   rw [hbad] at front
   obtain ⟨L2, H2, v12, vr2, h02, e2⟩ := loop11C call w hb v1 v3 d (i + 1) q' H1 (.loc H.length 0) [.int .i64 ((i + 1 : Nat) : Int), iV i] (by omega) (by omega) h01
   refine ⟨L2, H2, v12, vr2, h02, fun kn kx kr => ?_⟩
   rw [show goodN (badC w.C) i (d + 1) = goodN (badC w.C) (i + 1) d by simp [goodN, hbad]]
   refine (front kn kx kr).trans <| (zCond_eq (p := false) rfl).trans ?_
   rw [if_neg (by decide)]
   refine zqK <| zReg_eq.trans <| (zP_v vMv_eq).trans <| (zP_v (vInt_eq fAdd_ok rfl rfl rfl)).trans ?_
   rw [hw]
   refine zqV ?_
   exact e2 kn kx kr
def isV (w : VwT) : Bool := goodN (badM w.M) 0 w.M.length && goodN (badC w.C) 0 w.C.length && decide (w.C.length ≤ 40)
theorem view11 (call : CallYT) (Y : YE) (k : Nat) (w : VwT) (hk : w.M.length < k) (hk2 : w.C.length < k) (hm : w.M.length ≤ maxLen) (hc : w.C.length ≤ maxLen) :
  ∃ H', bodyZ E1 call Y k (G11 E1) [w.av] (rep []) = some (.bool (isV w), rep H') := by
 obtain ⟨L1, H1, v1, v3, h01, e1⟩ := loop11M (call Y) w hm w.M.length 0 k [.row 25 [w.m, w.c] false] .undef [] (by omega) hk rfl
 have e0 : ∀ q, bodyZ E1 call Y q (G11 E1) [w.av] (rep []) = (G11 E1).z call Y q (finZ E1 [.tmp (.v 6)]) (fun _ _ _ _ => none) (finZ E1 [.tmp (.v 6)]) [] [w.av, .undef, .undef, .undef, .undef, .undef, .undef] (rep []) := by intro q; kernel_rfl
 obtain ⟨L2, H2, v4, v5, h02, e2⟩ := loop11C (call Y) w hc v1 v3 w.C.length 0 k H1 .undef [] (by omega) hk2 h01
 unfold isV
 refine ⟨if goodN (badM w.M) 0 w.M.length then H2 else H1, ?_⟩
 refine (e0 _).trans ?_
 unfold G11
 dsimp only
 refine zqR ?_
 refine (zStep_newH rfl (box25 (x := w.m) (y := w.c) rfl)).trans ?_
 refine zqV <| zqA <| zqA <| zReg_eq.trans <| zqV <| zBlock_app.trans <| (e1 _ _ _).trans ?_
 cases hg : goodN (badM w.M) 0 w.M.length with
 | false => rfl
 | true =>
  rw [if_pos rfl, if_pos rfl, ifZ_eq, if_pos (by rfl)]
  refine zqA <| zqA <| zReg_eq.trans <| zqV <| zBlock_app.trans <| (e2 _ _ _).trans ?_
  cases hg2 : goodN (badC w.C) 0 w.C.length with
  | false => rfl
  | true =>
   rw [if_pos rfl, ifZ_eq, if_pos (by rfl)]
   refine zqR <| (zP_v (vFieldAddr_loc rfl)).trans <| (zL_v (wLoad_loc (nm := 0) (off := 0 + 1) rfl h02 (by simp) rfl)).trans <| (zP_v (vLenL_sl rfl)).trans <| (zP_v (vInt_eq (fGen_ok (by simp) (by simp)) rfl rfl (r := .bool (decide (w.C.length ≤ 40))) (iLeq (by rw [Bool.eq_iff_iff]; simp; omega)))).trans <| zqV <| zRet_app.trans ?_
   rfl
theorem c11 {k : Nat} (Y : YE) (T : TH) (w : VwT) (hk : w.M.length < k) (hk2 : w.C.length < k) (hm : w.M.length ≤ maxLen) (hc : w.C.length ≤ maxLen) : CY (k + 1) Y (.func 11) [w.av] T = some (.bool (isV w), T, ⟨[], [], false⟩) := by
 obtain ⟨H', hb⟩ := view11 (CY k) [] k w hk hk2 hm hc
 exact call_flat (zf := G11 E1) rfl rfl (fun g => flat_one (fz_view w) g) hb (fun _ => rfl) rfl
theorem goodN_at {bad : Nat → Bool} : ∀ {d i : Nat}, goodN bad i d = true → ∀ j, i ≤ j → j < i + d → bad j = false
 | 0, i, h, j, h1, h2 => by omega
 | d + 1, i, h, j, h1, h2 => by
  simp only [goodN, Bool.and_eq_true, Bool.not_eq_true'] at h
  by_cases hj : j = i
  ·subst hj; exact h.1
  ·exact goodN_at h.2 j (by omega) (by omega)
theorem okV_of {w : VwT} (h : isV w = true) : OkV w := by
 simp only [isV, Bool.and_eq_true, decide_eq_true_eq] at h
 obtain ⟨⟨hm, hc⟩, hl⟩ := h
 have gm : ∀ (j : Nat) (x : Mem), w.M[j]? = some x → (0 : Int) ≤ x.1 ∧ x.1 < 4 ∧ ∀ (i : Nat) (y : Mem), i + 1 = j → w.M[i]? = some y → y.1 < x.1 := fun j x hx => by
  have hj := (List.getElem?_eq_some_iff.1 hx).1
  have hb := goodN_at hm j (by omega) (by omega)
  obtain ⟨d, n⟩ := x
  simp only [badM, hx, Bool.or_eq_false_iff, decide_eq_false_iff_not] at hb
  obtain ⟨⟨⟨b1, b2⟩, b3⟩, b4⟩ := hb
  refine ⟨by simp; omega, by simp; omega, fun i y hi hy => ?_⟩
  subst hi
  obtain ⟨p, pn⟩ := y
  simp only [hy, decide_eq_false_iff_not] at b4
  simp; omega
 have gi : ∀ (j : Nat) (x : Mem), w.M[j]? = some x → (j : Int) ≤ x.1 := by
  intro j
  induction j with
  | zero => intro x hx; simpa using (gm 0 x hx).1
  | succ j ih =>
   intro x hx
   have hj := (List.getElem?_eq_some_iff.1 hx).1
   obtain ⟨y, hy⟩ : ∃ y, w.M[j]? = some y := ⟨w.M[j], by simp [show j < w.M.length by omega]⟩
   have := ih y hy
   have := (gm (j + 1) x hx).2.2 j y rfl hy
   omega
 have gc : ∀ (j : Nat) (x y : Cop), w.C[j]? = some x → w.C[j + 1]? = some y → lessN x.1 y.1 = true := fun j x y hx hy => by
  have hj := (List.getElem?_eq_some_iff.1 hy).1
  have hb := goodN_at hc (j + 1) (by omega) (by omega)
  obtain ⟨s, n, m⟩ := x
  obtain ⟨s2, n2, m2⟩ := y
  simp only [badC, hx, hy, Bool.or_eq_false_iff] at hb
  simpa using hb.2
 have gcc : ∀ (d j : Nat) (x y : Cop), w.C[j]? = some x → w.C[j + 1 + d]? = some y → lessN x.1 y.1 = true := by
  intro d
  induction d with
  | zero => intro j x y hx hy; exact gc j x y hx hy
  | succ d ih =>
   intro j x y hx hy
   have hj := (List.getElem?_eq_some_iff.1 hy).1
   obtain ⟨z, hz⟩ : ∃ z, w.C[j + 1]? = some z := ⟨w.C[j + 1]'(by omega), by simp [show j + 1 < w.C.length by omega]⟩
   exact less_trans (gc j x z hx hz) (ih (j + 1) z y hz (by rw [show j + 1 + 1 + d = j + 1 + (d + 1) by omega]; exact hy))
 refine ⟨?_, fun x hx => ?_, by omega, ?_⟩
 ·by_cases hz : w.M.length = 0
  ·omega
  ·obtain ⟨x, hx⟩ : ∃ x, w.M[w.M.length - 1]? = some x := ⟨w.M[w.M.length - 1]'(by omega), by simp [show w.M.length - 1 < w.M.length by omega]⟩
   have h1 := gi _ x hx
   have h2 := (gm _ x hx).2.1
   omega
 ·obtain ⟨j, hj⟩ := List.getElem?_of_mem hx
  have h1 := gm j x hj
  unfold I64; omega
 ·unfold SortedC
  rw [List.pairwise_iff_getElem]
  intro i j hi hj hij
  exact gcc (j - i - 1) i _ _ (by simp) (by rw [show i + 1 + (j - i - 1) = j by omega]; simp)
end Go.Proofs.PxV2
