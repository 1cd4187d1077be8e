/- Views: Keepers, Keeps, both ways. -/
import Derived.Test.YtpdgbkmpcahjjaaPzR2Z6
set_option linter.unusedVariables false
set_option linter.unusedSimpArgs false
set_option maxRecDepth 100000
namespace Go.Proofs.PxR2
open Go Go.Px Go.Proofs
theorem c35i {k : Nat} (hk : 421 ≤ k) (Y : YE) (T : TH) (ns : List Int) (fl : Bool) (key : List Nat) (n : Int) (hns : ∀ n ∈ ns, I64 n) (hlen : ns.length < 50) (hkey : key.length ≤ 100) :
    ∃ f, CY (k + 1) Y (.func 35) [.sl ns.length (ns.map iV) fl, .str key, iV n] T = some (.sl (keepN n (walkK key ns)).length ((keepN n (walkK key ns)).map iV) f, T, ⟨[], [], false⟩) := by
  obtain ⟨j, rfl⟩ : ∃ j, k = j + 1 := ⟨k - 1, by omega⟩
  obtain ⟨f, hb⟩ := keep35 (CY (j + 1)) [] (j + 1) (.sl ns.length (ns.map iV) fl) key n (walkK key ns) [] (c33 (by omega) [] _ ns fl key hns hlen hkey)
  exact ⟨f, call_nomark (ns2 := []) rfl rfl (fun _ => rfl) hb rfl⟩
theorem c36i {k : Nat} (hk : 421 ≤ k) (Y : YE) (T : TH) (ns : List Int) (fl : Bool) (key : List Nat) (n : Int) (hns : ∀ n ∈ ns, I64 n) (hlen : ns.length < 40) (hkey : key.length ≤ 100) :
    ∃ f, CY (k + 1) Y (.func 36) [.sl ns.length (ns.map iV) fl, .str key, iV n] T = some (.sl (keepN n (walkK key ns)).length ((keepN n (walkK key ns)).map iV) f, T, ⟨[], [], false⟩) := by
  obtain ⟨j, rfl⟩ : ∃ j, k = j + 1 := ⟨k - 1, by omega⟩
  obtain ⟨f, hb⟩ := keep36 (CY (j + 1)) [] (j + 1) (.sl ns.length (ns.map iV) fl) key n (walkK key ns) [] (c34 (by omega) [] _ ns fl key hns hlen hkey)
  exact ⟨f, call_nomark (ns2 := []) rfl rfl (fun _ => rfl) hb rfl⟩
structure OkV (w : VwT) : Prop where
  m : w.M.length < 40
  i : ∀ x ∈ w.M, I64 x.1
  c : w.C.length < 400
  s : SortedC w.C
theorem inN_len (l : List Mem) : (inN l).length ≤ l.length := by
  unfold inN; rw [List.length_map]; exact List.length_filter_le _ _
theorem inN_i64 {l : List Mem} (h : ∀ x ∈ l, I64 x.1) : ∀ n ∈ inN l, I64 n := by
  intro n hn
  simp only [inN, List.mem_map, List.mem_filter] at hn
  obtain ⟨x, ⟨hx, _⟩, rfl⟩ := hn
  exact h x hx
noncomputable def homeN (w : VwT) (key : List Nat) : List Int := keepN (ofN w.C key) (walkK key (inN w.M))
theorem outV_sl (l : List Int) : ∃ f, outV l = .sl l.length (l.map iV) f := by
  unfold outV
  split
  · rename_i h; subst h; exact ⟨true, rfl⟩
  · exact ⟨false, rfl⟩
theorem c39 {k : Nat} (hk : 500 ≤ k) (Y : YE) (T : TH) (w : VwT) (hw : OkV w) (key : List Nat) (hkey : key.length ≤ 100) :
    ∃ f, CY (k + 1) Y (.func 39) [w.av, .str key] T = some (.sl (homeN w key).length ((homeN w key).map iV) f, T, ⟨[], [], false⟩) := by
  obtain ⟨j, rfl⟩ : ∃ j, k = j + 6 := ⟨k - 6, by omega⟩
  have hlen := inN_len w.M
  have hm := hw.m
  have hcc := hw.c
  have h20 := c20 (k := j + 5) [] (rep ([.row 25 [w.m, w.c] false] ++ List.replicate 3 .dead)) w (by omega) (by omega)
  have h24 := c24 (k := j) [] (rep ([.row 25 [w.m, w.c] false] ++ List.replicate 3 .dead)) w key hw.s (by omega) (by omega)
  obtain ⟨f0, e0⟩ := outV_sl (inN w.M)
  rw [e0] at h20
  obtain ⟨f, h35⟩ := c35i (k := j + 5) (by omega) [] (rep ([.row 25 [w.m, w.c] false] ++ List.replicate 3 .dead)) (inN w.M) f0 key (ofN w.C key) (inN_i64 hw.i) (by omega) hkey
  refine ⟨f, call_nomark (zf := G39 E1) (ns2 := []) (r := .sl (homeN w key).length ((homeN w key).map iV) f) (T2 := rep ([.row 25 [w.m, w.c] false] ++ List.replicate 3 .dead)) rfl rfl (fun g => flat_view2 w key g) ?_ rfl⟩
  have e1 : ∀ q, bodyZ E1 (CY (j + 6)) [] q (G39 E1) [w.av, .str key] (rep []) = (G39 E1).z (CY (j + 6)) [] q (finZ E1 [.tmp (.v 3)]) (fun _ _ _ _ => none) (finZ E1 [.tmp (.v 3)]) [] [w.av, .undef, .str key, .undef] (rep []) := by intro q; kernel_rfl
  refine (e1 _).trans ?_
  unfold G39
  dsimp only
  refine zSeq_reg.trans ?_
  refine (zStep_newH rfl (box25 (x := w.m) (y := w.c) rfl)).trans ?_
  refine (zV_v vMv_eq).trans ?_
  refine zSeq_app.trans ?_
  refine zDreg_eq.trans ?_
  refine (zLD_v (wLoad_loc (nm := 0) (off := 0) (cs := [w.m, w.c]) rfl rfl (by simp) rfl) rfl spOk_nil).trans ?_
  refine (zCallD_idle h20 rfl).trans ?_
  refine (zLD_v (wLoad_loc (nm := 0) (off := 0) (cs := [w.m, w.c]) rfl rfl (by simp) rfl) rfl (spOk_apart rfl spOk_nil)).trans ?_
  refine (zCallD_idle h24 rfl).trans ?_
  refine (zCallD_idle h35 rfl).trans ?_
  refine (zVD_v vMv_eq).trans ?_
  refine zRet_app.trans ?_
  rfl
theorem c40 {k : Nat} (hk : 500 ≤ k) (Y : YE) (T : TH) (w : VwT) (hw : OkV w) (key : List Nat) (hkey : key.length ≤ 100) :
    ∃ f, CY (k + 1) Y (.func 40) [w.av, .str key] T = some (.sl (homeN w key).length ((homeN w key).map iV) f, T, ⟨[], [], false⟩) := by
  obtain ⟨j, rfl⟩ : ∃ j, k = j + 6 := ⟨k - 6, by omega⟩
  have hlen := inN_len w.M
  have hm := hw.m
  have hcc := hw.c
  have h20 := c21 (k := j + 5) [] (rep ([.row 25 [w.m, w.c] false] ++ List.replicate 3 .dead)) w (by omega) (by omega)
  have h24 := c25 (k := j + 5) [] (rep ([.row 25 [w.m, w.c] false] ++ List.replicate 3 .dead)) w key (by omega) (by omega)
  obtain ⟨f0, e0⟩ := outV_sl (inN w.M)
  rw [e0] at h20
  obtain ⟨f, h35⟩ := c36i (k := j + 5) (by omega) [] (rep ([.row 25 [w.m, w.c] false] ++ List.replicate 3 .dead)) (inN w.M) f0 key (ofN w.C key) (inN_i64 hw.i) (by omega) hkey
  refine ⟨f, call_nomark (zf := G40 E1) (ns2 := []) (r := .sl (homeN w key).length ((homeN w key).map iV) f) (T2 := rep ([.row 25 [w.m, w.c] false] ++ List.replicate 3 .dead)) rfl rfl (fun g => flat_view2 w key g) ?_ rfl⟩
  have e1 : ∀ q, bodyZ E1 (CY (j + 6)) [] q (G40 E1) [w.av, .str key] (rep []) = (G40 E1).z (CY (j + 6)) [] q (finZ E1 [.tmp (.v 3)]) (fun _ _ _ _ => none) (finZ E1 [.tmp (.v 3)]) [] [w.av, .undef, .str key, .undef] (rep []) := by intro q; kernel_rfl
  refine (e1 _).trans ?_
  unfold G40
  dsimp only
  refine zSeq_reg.trans ?_
  refine (zStep_newH rfl (box25 (x := w.m) (y := w.c) rfl)).trans ?_
  refine (zV_v vMv_eq).trans ?_
  refine zSeq_app.trans ?_
  refine zDreg_eq.trans ?_
  refine (zLD_v (wLoad_loc (nm := 0) (off := 0) (cs := [w.m, w.c]) rfl rfl (by simp) rfl) rfl spOk_nil).trans ?_
  refine (zCallD_idle h20 rfl).trans ?_
  refine (zLD_v (wLoad_loc (nm := 0) (off := 0) (cs := [w.m, w.c]) rfl rfl (by simp) rfl) rfl (spOk_apart rfl spOk_nil)).trans ?_
  refine (zCallD_idle h24 rfl).trans ?_
  refine (zCallD_idle h35 rfl).trans ?_
  refine (zVD_v vMv_eq).trans ?_
  refine zRet_app.trans ?_
  rfl
noncomputable def body86 : CZ := (zSeq (zReg fun k => (zP (vInt E1 fLss .lss 3 false false (.v 1) (.v 2))) k)
  (zSeq (zCond (.l 0) zSkip (zExit 0))
  (zSeq (zBlock 1 (zSeq (zReg fun k => (zV 4 (vMv (.v 1))) k)
  (zSeq (zReg fun k => (zP (vIndexAddr 1 (.v 0) (.v 4))) ((zL 1 false (.l 0)) ((zP (vInt E1 fEql .eql 3 false false (.v 3) (.l 0))) k)))
  (zCond (.l 0) (zSeq (zReg fun k => (zV 5 (vMv (.v 4))) k)
  zRet) zSkip))))
  (zReg fun k => (zP (vInt E1 fAdd .add 3 false true (.v 1) (.k (.int .i64 1)))) ((zV 1 (vMv (.l 0))) k)))))
def V86 (l : List Int) (f : Bool) (n : Int) (i v4 r : AV) : List AV := [.sl l.length (l.map iV) f, i, iV l.length, iV n, v4, r]
theorem loop86 (l : List Int) (f : Bool) (n : Int) (hl : l.length < 100000) (H : Heap) :
    ∀ (d i q : Nat) (L : List AV) (v4 : AV), i + d = l.length → d < q →
    (n ∈ l.drop i → ∃ L' v1 v4' j, ∀ kn kx kr, zLoop q body86 kn kx kr L (V86 l f n (iV i) v4 (iV 0)) (rep H) = kr L' (V86 l f n v1 v4' (iV ((j : Nat) : Int))) (rep H)) ∧
    (n ∉ l.drop i → ∃ L' v1 v4', ∀ kn kx kr, zLoop q body86 kn kx kr L (V86 l f n (iV i) v4 (iV 0)) (rep H) = kx 0 L' (V86 l f n v1 v4' (iV 0)) (rep H))
  | 0, i, q, L, v4, hi, hq => by
    obtain ⟨q', rfl⟩ : ∃ q', q = q' + 1 := ⟨q - 1, by omega⟩
    have hil : i = l.length := by omega
    subst hil
    refine ⟨fun h => by simp at h, fun _ => ⟨[.bool false], iV l.length, v4, fun kn kx kr => ?_⟩⟩
    rw [zLoop_succ]
    unfold body86
    refine zSeq_reg.trans ?_
    refine (zP_v (vInt_eq fLss_ok rfl rfl (lss_nat 0 E1))).trans ?_
    rw [show decide (l.length < l.length) = false by simp]
    refine zSeq_app.trans ?_
    refine (zCond_eq (p := false) rfl).trans ?_
    rw [if_neg (by decide)]
    exact zExit_app
  | d + 1, i, q, L, v4, hi, hq => by
    obtain ⟨q', rfl⟩ : ∃ q', q = q' + 1 := ⟨q - 1, by omega⟩
    have hlt : i < l.length := by omega
    obtain ⟨x, hs⟩ : ∃ x, l[i]? = some x := ⟨l[i], by simp [hlt]⟩
    have hw : IntKind.i64.wrap ((i : Int) + 1) = ((i + 1 : Nat) : Int) := by rw [IntKind.wrap_i64]; omega
    have hd : (l.map iV).drop (i * 1) = iV x :: (l.map iV).drop (i + 1) := by
      rw [Nat.mul_one, ← List.map_drop, drop_at hs]; simp
    obtain ⟨ih1, ih2⟩ := loop86 l f n hl H d (i + 1) q' [.int .i64 ((i + 1 : Nat) : Int)] (iV i) (by omega) (by omega)
    have front : ∃ Lf, ∀ kn kx kr, zLoop (q' + 1) body86 kn kx kr L (V86 l f n (iV i) v4 (iV 0)) (rep H) = (zCond (.l 0) (zSeq (zReg fun k => (zV 5 (vMv (.v 4))) k) zRet) zSkip) ((zReg fun k => (zP (vInt E1 fAdd .add 3 false true (.v 1) (.k (.int .i64 1)))) ((zV 1 (vMv (.l 0))) k)) (zLoop q' body86 kn kx kr) kx kr) (fun j L V H => ifZ (Nat.beq j 1) ((zReg fun k => (zP (vInt E1 fAdd .add 3 false true (.v 1) (.k (.int .i64 1)))) ((zV 1 (vMv (.l 0))) k)) (zLoop q' body86 kn kx kr) kx kr L V H) (kx j L V H)) kr (.bool (n == x) :: Lf) (V86 l f n (iV i) (iV i) (iV 0)) (rep H) := by
      refine ⟨[iV x, .ref (iV x :: (l.map iV).drop (i + 1))], fun kn kx kr => ?_⟩
      rw [zLoop_succ]
      conv => lhs; unfold body86
      refine zSeq_reg.trans ?_
      refine (zP_v (vInt_eq fLss_ok rfl rfl (lss_nat 0 E1))).trans ?_
      rw [show decide (i < l.length) = true by simp [hlt]]
      refine zSeq_app.trans ?_
      refine (zCond_eq (p := true) rfl).trans ?_
      rw [if_pos rfl]
      refine zSkip_app.trans ?_
      refine zSeq_app.trans ?_
      refine zBlock_app.trans ?_
      refine zSeq_reg.trans ?_
      refine (zV_v vMv_eq).trans ?_
      refine zSeq_reg.trans ?_
      refine (zP_v (vIndexAddr_sl rfl rfl hlt (by simp; omega))).trans ?_
      rw [hd]
      refine (zL_v (wLoad_ref rfl (by simp) rfl)).trans ?_
      exact zP_v (vInt_eq fEql_ok rfl rfl rfl)
    obtain ⟨Lf, front⟩ := front
    rw [drop_at hs]
    by_cases hx : n = x
    · subst hx
      rw [show (n == n) = true by simp] at front
      refine ⟨fun _ => ⟨[], iV i, iV i, i, fun kn kx kr => ?_⟩, fun h => absurd (List.mem_cons_self) h⟩
      refine (front kn kx kr).trans ?_
      refine (zCond_eq (p := true) rfl).trans ?_
      rw [if_pos rfl]
      refine zSeq_reg.trans ?_
      refine (zV_v vMv_eq).trans ?_
      exact zRet_app
    · rw [show (n == x) = false by simpa using hx] at front
      have next : ∀ kn kx kr, zLoop (q' + 1) body86 kn kx kr L (V86 l f n (iV i) v4 (iV 0)) (rep H) = zLoop q' body86 kn kx kr [.int .i64 ((i + 1 : Nat) : Int)] (V86 l f n (iV (i + 1 : Nat)) (iV i) (iV 0)) (rep H) := fun kn kx kr => by
        refine (front kn kx kr).trans ?_
        refine (zCond_eq (p := false) rfl).trans ?_
        rw [if_neg (by decide)]
        refine zSkip_app.trans ?_
        refine zReg_eq.trans ?_
        refine (zP_v (vInt_eq fAdd_ok rfl rfl rfl)).trans ?_
        rw [hw]
        exact zV_v vMv_eq
      refine ⟨fun h => ?_, fun h => ?_⟩
      · obtain ⟨L', v1, v4', j, e⟩ := ih1 (by simpa [hx] using h)
        exact ⟨L', v1, v4', j, fun kn kx kr => (next kn kx kr).trans (e kn kx kr)⟩
      · obtain ⟨L', v1, v4', e⟩ := ih2 (by simpa [hx] using h)
        exact ⟨L', v1, v4', fun kn kx kr => (next kn kx kr).trans (e kn kx kr)⟩
theorem flat_slint (l : List Int) (f : Bool) (n : Int) (g : Nat → Option AO) : fzL (fzG E1 g fzDeep) [.sl l.length (l.map iV) f, iV n] = some ([.sl l.length (l.map iV) f, iV n], []) := rfl
theorem c86 {k : Nat} (Y : YE) (T : TH) (l : List Int) (f : Bool) (n : Int) (hk : l.length < k) (hl : l.length < 100000) :
    ∃ r : Int, CY (k + 1) Y (.func 86) [.sl l.length (l.map iV) f, iV n] T = some (iV r, T, ⟨[], [], false⟩) ∧ (decide (r ≥ 0) = decide (n ∈ l)) := by
  obtain ⟨h1, h2⟩ := loop86 l f n hl [] l.length 0 k [] .undef (by omega) hk
  have e0 : ∀ q, bodyZ E1 (CY k) [] q (G86 E1) [.sl l.length (l.map iV) f, iV n] (rep []) = (G86 E1).z (CY k) [] q (finZ E1 [.tmp (.v 5)]) (fun _ _ _ _ => none) (finZ E1 [.tmp (.v 5)]) [] [.sl l.length (l.map iV) f, .undef, .undef, iV n, .undef, .undef] (rep []) := by intro q; kernel_rfl
  have hb : ∃ r : Int, bodyZ E1 (CY k) [] k (G86 E1) [.sl l.length (l.map iV) f, iV n] (rep []) = some (iV r, rep []) ∧ (decide (r ≥ 0) = decide (n ∈ l)) := by
    have front : ∀ r : AV × TH, (zSeq (zBlock 0 (zLoop k body86)) (zSeq (zReg fun k => (zV 5 (vMv (.k (.int .i64 (-1))))) k) zRet)) (finZ E1 [.tmp (.v 5)]) (fun _ _ _ _ => none) (finZ E1 [.tmp (.v 5)]) [] (V86 l f n (iV (0 : Nat)) .undef (iV 0)) (rep []) = some r → bodyZ E1 (CY k) [] k (G86 E1) [.sl l.length (l.map iV) f, iV n] (rep []) = some r := fun r hh => by
      refine (e0 _).trans ?_
      unfold G86
      dsimp only
      refine zSeq_reg.trans ?_
      refine (zV_v vMv_eq).trans ?_
      refine zSeq_app.trans ?_
      refine zSeq_app.trans ?_
      refine zReg_eq.trans ?_
      refine (zV_v (vLenL_sl rfl)).trans ?_
      refine (zV_v vMv_eq).trans ?_
      exact hh
    by_cases hn : n ∈ l
    · obtain ⟨L', v1, v4', j, e⟩ := h1 (by simpa using hn)
      refine ⟨(j : Nat), front _ ?_, by simp [hn]⟩
      refine zSeq_app.trans ?_
      refine zBlock_app.trans ?_
      refine (e _ _ _).trans ?_
      rfl
    · obtain ⟨L', v1, v4', e⟩ := h2 (by simpa using hn)
      refine ⟨-1, front _ ?_, by simp [hn]⟩
      refine zSeq_app.trans ?_
      refine zBlock_app.trans ?_
      refine (e _ _ _).trans ?_
      rw [ifZ_eq, if_pos (by rfl)]
      refine zSeq_reg.trans ?_
      refine (zV_v vMv_eq).trans ?_
      refine zRet_app.trans ?_
      rfl
  obtain ⟨r, hb, hr⟩ := hb
  exact ⟨r, call_flat (zf := G86 E1) rfl rfl (flat_slint l f n) hb (fun _ => rfl) rfl, hr⟩
theorem c71 {k : Nat} (Y : YE) (T : TH) (l : List Int) (f : Bool) (n : Int) (hk : l.length < k) (hl : l.length < 100000) :
    CY (k + 2) Y (.func 71) [.sl l.length (l.map iV) f, iV n] T = some (.bool (decide (n ∈ l)), T, ⟨[], [], false⟩) := by
  obtain ⟨r, hc, hr⟩ := c86 (k := k) [] (rep []) l f n hk hl
  have hb : bodyZ E1 (CY (k + 1)) [] (k + 1) (G71 E1) [.sl l.length (l.map iV) f, iV n] (rep []) = some (.bool (decide (n ∈ l)), rep []) := by
    have e0 : ∀ q, bodyZ E1 (CY (k + 1)) [] q (G71 E1) [.sl l.length (l.map iV) f, iV n] (rep []) = (G71 E1).z (CY (k + 1)) [] q (finZ E1 [.tmp (.v 2)]) (fun _ _ _ _ => none) (finZ E1 [.tmp (.v 2)]) [] [.sl l.length (l.map iV) f, iV n, .undef] (rep []) := by intro q; kernel_rfl
    refine (e0 _).trans ?_
    unfold G71
    dsimp only
    refine zSeq_reg.trans ?_
    refine (zV_v vMv_eq).trans ?_
    refine zSeq_reg.trans ?_
    refine (zCall_eq hc).trans ?_
    refine (zP_v (vInt_eq (fGen_ok (by simp) (by simp)) rfl rfl (r := .bool (decide (r ≥ 0))) rfl)).trans ?_
    refine (zV_v vMv_eq).trans ?_
    refine zRet_app.trans ?_
    rw [hr]
    rfl
  exact call_flat (k := k + 1) (zf := G71 E1) rfl rfl (flat_slint l f n) hb (fun _ => rfl) rfl
theorem flat_view3 (w : VwT) (n : Int) (key : List Nat) (g : Nat → Option AO) : fzL (fzG E1 g fzDeep) [w.av, iV n, .str key] = some ([w.av, iV n, .str key], []) := rfl
theorem homeN_len (w : VwT) (hw : OkV w) (key : List Nat) : (homeN w key).length < 100 := by
  have h1 := inN_len w.M
  have h2 := hw.m
  have h3 : (walkK key (inN w.M)).length ≤ (inN w.M).length := List.Nodup.length_le_of_subset (walk_nodup key _) (fun x hx => (walk_mem key _ x).1 hx)
  have h4 : (homeN w key).length ≤ (walkK key (inN w.M)).length := by
    unfold homeN keepN; rw [List.length_take]; omega
  omega
theorem c41 {k : Nat} (hk : 510 ≤ k) (Y : YE) (T : TH) (w : VwT) (hw : OkV w) (n : Int) (key : List Nat) (hkey : key.length ≤ 100) :
    CY (k + 1) Y (.func 41) [w.av, iV n, .str key] T = some (.bool (decide (n ∈ homeN w key)), T, ⟨[], [], false⟩) := by
  obtain ⟨j, rfl⟩ : ∃ j, k = j + 2 := ⟨k - 2, by omega⟩
  have hl := homeN_len w hw key
  obtain ⟨f, h39⟩ := c39 (k := j + 1) (by omega) [] (rep [.row 25 [w.m, w.c] false]) w hw key hkey
  have h71 := c71 (k := j) [] (rep [.row 25 [w.m, w.c] false]) (homeN w key) f n (by omega) (by omega)
  refine call_flat (zf := G41 E1) (T2 := rep [.row 25 [w.m, w.c] false]) rfl rfl (flat_view3 w n key) ?_ (fun _ => rfl) rfl
  have e0 : ∀ q, bodyZ E1 (CY (j + 2)) [] q (G41 E1) [w.av, iV n, .str key] (rep []) = (G41 E1).z (CY (j + 2)) [] q (finZ E1 [.tmp (.v 4)]) (fun _ _ _ _ => none) (finZ E1 [.tmp (.v 4)]) [] [w.av, .undef, .str key, iV n, .undef] (rep []) := by intro q; kernel_rfl
  refine (e0 _).trans ?_
  unfold G41
  dsimp only
  refine zSeq_reg.trans ?_
  refine (zStep_newH rfl (box25 (x := w.m) (y := w.c) rfl)).trans ?_
  refine (zV_v vMv_eq).trans ?_
  refine zSeq_reg.trans ?_
  refine (zL_v (wLoad_loc (nm := 0) (off := 0) (cs := [w.m, w.c]) rfl rfl (by simp) rfl)).trans ?_
  refine (zCall_eq h39).trans ?_
  refine (zCall_eq h71).trans ?_
  refine (zV_v vMv_eq).trans ?_
  refine zRet_app.trans ?_
  rfl
theorem c42 {k : Nat} (hk : 510 ≤ k) (Y : YE) (T : TH) (w : VwT) (hw : OkV w) (n : Int) (key : List Nat) (hkey : key.length ≤ 100) :
    CY (k + 1) Y (.func 42) [w.av, iV n, .str key] T = some (.bool (decide (n ∈ homeN w key)), T, ⟨[], [], false⟩) := by
  obtain ⟨j, rfl⟩ : ∃ j, k = j + 2 := ⟨k - 2, by omega⟩
  have hl := homeN_len w hw key
  obtain ⟨f, h39⟩ := c40 (k := j + 1) (by omega) [] (rep [.row 25 [w.m, w.c] false]) w hw key hkey
  have h71 := c37 (k := j + 1) [] (rep [.row 25 [w.m, w.c] false]) (homeN w key) f n (by omega) (by omega)
  refine call_flat (zf := G42 E1) (T2 := rep [.row 25 [w.m, w.c] false]) rfl rfl (flat_view3 w n key) ?_ (fun _ => rfl) rfl
  have e0 : ∀ q, bodyZ E1 (CY (j + 2)) [] q (G42 E1) [w.av, iV n, .str key] (rep []) = (G42 E1).z (CY (j + 2)) [] q (finZ E1 [.tmp (.v 4)]) (fun _ _ _ _ => none) (finZ E1 [.tmp (.v 4)]) [] [w.av, .undef, .str key, iV n, .undef] (rep []) := by intro q; kernel_rfl
  refine (e0 _).trans ?_
  unfold G42
  dsimp only
  refine zSeq_reg.trans ?_
  refine (zStep_newH rfl (box25 (x := w.m) (y := w.c) rfl)).trans ?_
  refine (zV_v vMv_eq).trans ?_
  refine zSeq_reg.trans ?_
  refine (zL_v (wLoad_loc (nm := 0) (off := 0) (cs := [w.m, w.c]) rfl rfl (by simp) rfl)).trans ?_
  refine (zCall_eq h39).trans ?_
  refine (zCall_eq h71).trans ?_
  refine (zV_v vMv_eq).trans ?_
  refine zRet_app.trans ?_
  rfl
end Go.Proofs.PxR2
