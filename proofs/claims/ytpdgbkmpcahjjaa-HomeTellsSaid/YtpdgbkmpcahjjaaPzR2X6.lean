/- The reference's way round the ring, whole. -/
import Derived.Test.YtpdgbkmpcahjjaaPzR2X5
set_option linter.unusedVariables false
set_option linter.unusedSimpArgs false
set_option maxRecDepth 100000
namespace Go.Proofs.PxR2
open Go Go.Px Go.Proofs
theorem OwnJ.fr {H H' : Heap} {v : AV} {out : List Int} {fr : Bool} (h : OwnJ H v out fr) (hf : ∀ (i : Nat) (o : AO), H[i]? = some o → H'[i]? = some o) : OwnJ H' v out fr := by
  rcases h with h | ⟨hne, nm, e, hr⟩
  · exact .inl h
  · exact .inr ⟨hne, nm, e, hf nm _ hr⟩
theorem c37J {k : Nat} (Y : YE) (H : Heap) (out : List Int) (fr : Bool) (v : AV) (n : Int) (hv : OwnJ H v out fr) (hk : out.length < k) (hl : out.length < 1000000) :
    ∃ a, CY (k + 1) Y (.func 37) [v, iV n] (rep H) = some (.bool (decide (n ∈ out)), rep H, a) := by
  obtain ⟨fl, nss, hz, hcase⟩ := hv.fz
  have hzl : fzL (fzG E1 (rep H).get fzDeep) [v, iV n] = some ([.sl out.length (out.map iV) fl, iV n], nss) := by
    simp only [fzL, hz, Option.bind_eq_bind, Option.bind_some]
    show some (_, nss ++ ([] ++ [])) = _
    simp
  have h := call_pure (E := E1) (GE := GE E1) (LZ := LZ E1) (Y := Y) (T := rep H) (f := 37) (zf := G37 E1) (args := [v, iV n]) (fargs := [.sl out.length (out.map iV) fl, iV n]) (ns := nss) (ns2 := []) rfl rfl hzl (has37 _ _ _ out fl n _ hk hl) rfl
  exact ⟨_, h⟩
noncomputable def bodyO (call : CallTT) : CZ := (zSeq (zSeq (zReg fun k => (zP (vLenL (.v 6))) ((zP (vInt E1 fLss .lss 3 false false (.v 8) (.l 0))) k))
  (zCond (.l 0) zSkip (zExit 6)))
  (zSeq (zBlock 7 (zSeq (zReg fun k => (zP (vIndexAddr 2 (.v 6) (.v 8))) ((zP (vFieldAddr 1 (.l 0))) ((zL 1 false (.l 0)) ((zCall call 37 [(.v 9), (.l 0)] .push) ((zP (vNot (.l 0))) k)))))
  (zCond (.l 0) (zReg fun k => (zP (vMv (.v 9))) ((zP (vIndexAddr 2 (.v 6) (.v 8))) ((zP (vFieldAddr 1 (.l 0))) ((zL 1 false (.l 0)) ((zStep E1 call ⟨.buildSlice 32 1 [(0, (.l 0))], .push, none, false, 6, (some 0)⟩) ((zStep E1 call ⟨.append 32 32 (.l 4) (.l 0), .push, none, false, 7, (some 1)⟩) ((zV 9 (vMv (.l 0))) k))))))) zSkip)))
  (zReg fun k => (zP (vMv (.v 8))) ((zP (vInt E1 fAdd .add 3 false true (.l 0) (.k (.int .i64 1)))) ((zV 8 (vMv (.l 0))) k)))))
theorem loopO (k : Nat) (Y : YE) (key : List Nat) (i nodes kk atv j s : AV) (nm : Nat) (l : List Spot) (hll : l.length < 200) (hk : 300 ≤ k) :
    ∀ (d m q : Nat) (H : Heap) (v : AV) (out : List Int) (L : List AV), m + d = l.length → d < q → OwnJ H v out false → out.length ≤ m → H[nm]? = some (.row 85 (spotCells l) false) → Apart v nm →
    ∃ L' H' v', (∀ kn kx kr, zLoop q (bodyO (CY (k + 1) Y)) kn kx kr L (VR key i nodes kk atv j (.own nm 0 l.length 2) s (iV m) v) (rep H) = kx 6 L' (VR key i nodes kk atv j (.own nm 0 l.length 2) s (iV l.length) v') (rep H')) ∧ OwnJ H' v' ((l.drop m).foldl (fun o s => metS o s.2) out) false
  | 0, m, q, H, v, out, L, hm, hq, ho, hl, hrow, hap => by
    obtain ⟨q', rfl⟩ : ∃ q', q = q' + 1 := ⟨q - 1, by omega⟩
    have hml : m = l.length := by omega
    subst hml
    refine ⟨[.bool false, .int .i64 l.length], H, v, fun kn kx kr => ?_, by simpa using ho⟩
    rw [zLoop_succ]
    unfold bodyO
    refine zSeq_app.trans ?_
    refine zSeq_reg.trans ?_
    refine (zP_v (vLenL_own rfl)).trans ?_
    refine (zP_v (vInt_eq fLss_ok rfl rfl (lss_nat 0 E1))).trans ?_
    rw [show decide (l.length < l.length) = false by simp]
    refine (zCond_eq (p := false) rfl).trans ?_
    rw [if_neg (by decide)]
    exact zExit_app
  | d + 1, m, q, H, v, out, L, hm, hq, ho, hl, hrow, hap => by
    obtain ⟨q', rfl⟩ : ∃ q', q = q' + 1 := ⟨q - 1, by omega⟩
    have hlt : m < l.length := by omega
    obtain ⟨⟨a, n⟩, hs⟩ : ∃ x, l[m]? = some x := ⟨l[m], by simp [hlt]⟩
    have hw : IntKind.i64.wrap ((m : Int) + 1) = ((m + 1 : Nat) : Int) := by rw [IntKind.wrap_i64]; omega
    have hcl := spotCells_length l
    have hd1 : (spotCells l).drop (0 + m * 2 + 1) = iV n :: (spotCells l).drop (m * 2 + 2) := by
      rw [show 0 + m * 2 + 1 = m * 2 + 1 by omega, ← List.drop_drop, spot_drop l m a n hs]; rfl
    obtain ⟨ac, hc⟩ := c37J (k := k) Y H out false v n ho (by omega) (by omega)
    have front : ∃ Lf, ∀ kn kx kr, zLoop (q' + 1) (bodyO (CY (k + 1) Y)) kn kx kr L (VR key i nodes kk atv j (.own nm 0 l.length 2) s (iV m) v) (rep H) = (zCond (.l 0) (zReg fun κ => (zP (vMv (.v 9))) ((zP (vIndexAddr 2 (.v 6) (.v 8))) ((zP (vFieldAddr 1 (.l 0))) ((zL 1 false (.l 0)) ((zStep E1 (CY (k + 1) Y) ⟨.buildSlice 32 1 [(0, (.l 0))], .push, none, false, 6, (some 0)⟩) ((zStep E1 (CY (k + 1) Y) ⟨.append 32 32 (.l 4) (.l 0), .push, none, false, 7, (some 1)⟩) ((zV 9 (vMv (.l 0))) κ))))))) zSkip) ((zReg fun k => (zP (vMv (.v 8))) ((zP (vInt E1 fAdd .add 3 false true (.l 0) (.k (.int .i64 1)))) ((zV 8 (vMv (.l 0))) k))) (zLoop q' (bodyO (CY (k + 1) Y)) kn kx kr) kx kr) (fun j L V H => ifZ (Nat.beq j 7) ((zReg fun k => (zP (vMv (.v 8))) ((zP (vInt E1 fAdd .add 3 false true (.l 0) (.k (.int .i64 1)))) ((zV 8 (vMv (.l 0))) k))) (zLoop q' (bodyO (CY (k + 1) Y)) kn kx kr) kx kr L V H) (kx j L V H)) kr (.bool (!decide (n ∈ out)) :: Lf) (VR key i nodes kk atv j (.own nm 0 l.length 2) s (iV m) v) (rep H) := by
      refine ⟨[.bool (decide (n ∈ out)), iV n, .loc nm (0 + m * 2 + 1), .loc nm (0 + m * 2)], fun kn kx kr => ?_⟩
      rw [zLoop_succ]
      conv => lhs; unfold bodyO
      refine zSeq_app.trans ?_
      refine zSeq_reg.trans ?_
      refine (zP_v (vLenL_own rfl)).trans ?_
      refine (zP_v (vInt_eq fLss_ok rfl rfl (lss_nat 0 E1))).trans ?_
      rw [show decide (m < l.length) = true by simp [hlt]]
      refine (zCond_eq (p := true) rfl).trans ?_
      rw [if_pos rfl]
      refine zSkip_app.trans ?_
      refine zSeq_app.trans ?_
      refine zBlock_app.trans ?_
      refine zSeq_reg.trans ?_
      refine (zP_v (vIndexAddr_own rfl rfl hlt)).trans ?_
      refine (zP_v (vFieldAddr_loc rfl)).trans ?_
      refine (zL_v (wLoad_loc rfl hrow (by rw [hcl]; omega) (by rw [hd1]; rfl))).trans ?_
      refine (zCall_eq hc).trans ?_
      exact zP_v (vNot_eq rfl)
    obtain ⟨Lf, front⟩ := front
    rw [drop_at hs, List.foldl_cons]
    cases hb : (!decide (n ∈ out)) with
    | false =>
      rw [hb] at front
      have hin : n ∈ out := by simpa using hb
      have hme : metS out n = out := by unfold metS; rw [if_pos hin]
      obtain ⟨L2, H2, v2, e2, h2⟩ := loopO k Y key i nodes kk atv j s nm l hll hk d (m + 1) q' H v out [.int .i64 ((m + 1 : Nat) : Int), iV m] (by omega) (by omega) ho (by omega) hrow hap
      refine ⟨L2, H2, v2, fun kn kx kr => ?_, by rw [hme]; exact h2⟩
      refine (front kn kx kr).trans ?_
      refine (zCond_eq (p := false) rfl).trans ?_
      rw [if_neg (by decide)]
      refine zSkip_app.trans ?_
      refine zReg_eq.trans ?_
      refine (zP_v vMv_eq).trans ?_
      refine (zP_v (vInt_eq fAdd_ok rfl rfl rfl)).trans ?_
      rw [hw]
      refine (zV_v vMv_eq).trans ?_
      exact e2 kn kx kr
    | true =>
      rw [hb] at front
      have hin : n ∉ out := by simpa using hb
      have hme : metS out n = out ++ [n] := by unfold metS; rw [if_neg hin]
      obtain ⟨H0, u, e0, hou, fr0⟩ := oneJ (CY (k + 1) Y) 6 (.l 0) (some 0) H n [iV n, .loc nm (0 + m * 2 + 1), .loc nm (0 + m * 2), v] (VR key i nodes kk atv j (.own nm 0 l.length 2) s (iV m) v) rfl
      have hov0 : OwnJ H0 v out false := ho.fr fun i o h => (fr0 i o h).1
      obtain ⟨H1, v1, e1, ho1, fr1⟩ := catJ (CY (k + 1) Y) 7 (.l 4) (.l 0) (some 1) H0 v u out [n] false [u, iV n, .loc nm (0 + m * 2 + 1), .loc nm (0 + m * 2), v] (VR key i nodes kk atv j (.own nm 0 l.length 2) s (iV m) v) rfl rfl (by simp; omega) hov0 hou
      have hrow1 := fr1 nm _ hap (fr0 nm _ hrow).1
      obtain ⟨L2, H2, v2, e2, h2⟩ := loopO k Y key i nodes kk atv j s nm l hll hk d (m + 1) q' H1 v1 (out ++ [n]) [.int .i64 ((m + 1 : Nat) : Int), iV m] (by omega) (by omega) ho1 (by simp; omega) hrow1.1 hrow1.2
      refine ⟨L2, H2, v2, fun kn kx kr => ?_, by rw [hme]; exact h2⟩
      refine (front kn kx kr).trans ?_
      refine (zCond_eq (p := true) rfl).trans ?_
      rw [if_pos rfl]
      refine zReg_eq.trans ?_
      refine (zP_v vMv_eq).trans ?_
      refine (zP_v (vIndexAddr_own rfl rfl hlt)).trans ?_
      refine (zP_v (vFieldAddr_loc rfl)).trans ?_
      refine (zL_v (wLoad_loc rfl hrow (by rw [hcl]; omega) (by rw [hd1]; rfl))).trans ?_
      refine (e0 _).trans ?_
      refine (e1 _).trans ?_
      refine (zV_v vMv_eq).trans ?_
      refine zReg_eq.trans ?_
      refine (zP_v vMv_eq).trans ?_
      refine (zP_v (vInt_eq fAdd_ok rfl rfl rfl)).trans ?_
      show zV 8 (vMv (.l 0)) _ (.int .i64 (IntKind.i64.wrap ((m : Int) + 1)) :: _) _ _ = _
      rw [hw]
      refine (zV_v vMv_eq).trans ?_
      exact e2 kn kx kr
theorem loopO_nil (k : Nat) (Y : YE) (key : List Nat) (i nodes kk atv j s v : AV) (T : TH) (q : Nat) (hq : 0 < q) (L : List AV) :
    ∃ L', ∀ kn kx kr, zLoop q (bodyO (CY (k + 1) Y)) kn kx kr L (VR key i nodes kk atv j (.sl 0 [] true) s (iV ((0 : Nat) : Int)) v) T = kx 6 L' (VR key i nodes kk atv j (.sl 0 [] true) s (iV ((0 : Nat) : Int)) v) T := by
  obtain ⟨q', rfl⟩ : ∃ q', q = q' + 1 := ⟨q - 1, by omega⟩
  refine ⟨[.bool false, .int .i64 ((0 : Nat) : Int)], fun kn kx kr => ?_⟩
  rw [zLoop_succ]
  unfold bodyO
  refine zSeq_app.trans ?_
  refine zSeq_reg.trans ?_
  refine (zP_v (vLenL_sl rfl)).trans ?_
  refine (zP_v (vInt_eq fLss_ok rfl rfl rfl)).trans ?_
  refine (zCond_eq (p := false) rfl).trans ?_
  rw [if_neg (by decide)]
  exact zExit_app
theorem fz_outJ {H : Heap} {v : AV} {out : List Int} (h : OwnJ H v out false) : ∃ ns, fzG E1 (rep H).get fzDeep v = some (outV out, ns) := by
  rw [show (rep H).get = fun i => H[i]? from funext (rep_get _)]
  rcases h with ⟨rfl, rfl⟩ | ⟨hne, nm, rfl, hr⟩
  · exact ⟨[], rfl⟩
  · refine ⟨[nm], ?_⟩
    have h1 := fzG_own (E := E1) (g := fun i => H[i]?) (k := 59) (n := out.length) (sz := 1) hr (by simp) (fzL_ints _ 58 out)
    rw [outV_eq]
    rw [show out.isEmpty = false by cases out; exact absurd rfl hne; rfl]
    exact h1
theorem walk34 {k : Nat} (hk : 420 ≤ k) (ns : List Int) (fl : Bool) (key : List Nat) (hns : ∀ n ∈ ns, I64 n) (hlen : ns.length < 40) (hkey : key.length ≤ 100) :
    ∃ v H', bodyZ E1 (CY k) [] k (G34 E1) [.sl ns.length (ns.map iV) fl, .str key] (rep []) = some (v, rep H') ∧ OwnJ H' v (walkK key ns) false := by
  obtain ⟨j, rfl⟩ : ∃ j, k = j + 1 := ⟨k - 1, by omega⟩
  obtain ⟨a32, h32⟩ := c32 (k := j) [] (rep []) key hkey (by omega)
  obtain ⟨L1, H1, v61, s1, j1, m1, e1, ho1⟩ := loopN34 j (by omega) [] key ns fl (placeN key) (spotN_eq _).2 hns hlen .undef .undef ns.length 0 (j + 1) [] (.sl 0 [] true) .undef .undef .undef [] [] (by omega) (by omega) (.inl ⟨rfl, rfl⟩) (fun x hx => by cases hx) (by simp)
  rw [List.drop_zero, ref_sort] at ho1
  have hl : ((sortS (placeN key) (ns.flatMap marksOf)).map (farS (placeN key))).length = 4 * ns.length := by
    rw [List.length_map, (sortS_perm _ _).length_eq, marks_len]
  have hwk : walkS ((sortS (placeN key) (ns.flatMap marksOf)).map (farS (placeN key))) = walkK key ns := walk_far _ _
  obtain ⟨lr, hlr⟩ : ∃ lr, lr = (sortS (placeN key) (ns.flatMap marksOf)).map (farS (placeN key)) := ⟨_, rfl⟩
  rw [← hlr] at ho1 hl hwk
  have hO : ∃ L2 H2 v2 i2', (∀ kn kx kr, zLoop (j + 1) (bodyO (CY (j + 1) [])) kn kx kr [] (VR key (iV ns.length) (.sl ns.length (ns.map iV) fl) m1 (.int .u64 (placeN key : Int)) j1 v61 s1 (iV ((0 : Nat) : Int)) (.sl 0 [] true)) (rep H1) = kx 6 L2 (VR key (iV ns.length) (.sl ns.length (ns.map iV) fl) m1 (.int .u64 (placeN key : Int)) j1 v61 s1 i2' v2) (rep H2)) ∧ OwnJ H2 v2 (walkK key ns) false := by
    rcases ho1 with ⟨h0, rfl⟩ | ⟨hne, nm, rfl, hrow⟩
    · obtain ⟨L2, e2⟩ := loopO_nil j [] key (iV ns.length) (.sl ns.length (ns.map iV) fl) m1 (.int .u64 (placeN key : Int)) j1 s1 (.sl 0 [] true) (rep H1) (j + 1) (by omega) []
      refine ⟨L2, H1, .sl 0 [] true, _, e2, ?_⟩
      rw [← hwk, h0]
      exact .inl ⟨rfl, rfl⟩
    · obtain ⟨L2, H2, v2, e2, h2⟩ := loopO j [] key (iV ns.length) (.sl ns.length (ns.map iV) fl) m1 (.int .u64 (placeN key : Int)) j1 s1 nm lr (by omega) (by omega) lr.length 0 (j + 1) H1 (.sl 0 [] true) [] [] (by omega) (by omega) (.inl ⟨rfl, rfl⟩) (by simp) hrow (fun b off n sz e => by cases e)
      refine ⟨L2, H2, v2, _, e2, ?_⟩
      rw [← hwk]
      simpa [walkS] using h2
  obtain ⟨L2, H2, v2, i2', e2, h2⟩ := hO
  refine ⟨v2, H2, ?_, h2⟩
  have e0 : ∀ q, bodyZ E1 (CY (j + 1)) [] q (G34 E1) [.sl ns.length (ns.map iV) fl, .str key] (rep []) = (G34 E1).z (CY (j + 1)) [] q (finZ E1 [.tmp (.v 10)]) (fun _ _ _ _ => none) (finZ E1 [.tmp (.v 10)]) [] [.str key, .undef, .sl ns.length (ns.map iV) fl, .undef, .undef, .undef, .undef, .undef, .undef, .undef, .undef] (rep []) := by intro q; kernel_rfl
  refine (e0 _).trans ?_
  unfold G34
  dsimp only
  refine zSeq_reg.trans ?_
  refine (zV_v vMv_eq).trans ?_
  refine zSeq_reg.trans ?_
  refine (zV_v vMv_eq).trans ?_
  refine zSeq_reg.trans ?_
  refine (zCall_eq h32).trans ?_
  refine (zV_v vMv_eq).trans ?_
  refine zSeq_app.trans ?_
  refine zSeq_app.trans ?_
  refine zReg_eq.trans ?_
  refine (zV_v vMv_eq).trans ?_
  refine zBlock_app.trans ?_
  refine (e1 _ _ _).trans ?_
  rw [ifZ_eq, if_pos (by rfl)]
  refine zSeq_reg.trans ?_
  refine (zV_v vMv_eq).trans ?_
  refine zSeq_app.trans ?_
  refine zSeq_app.trans ?_
  refine zReg_eq.trans ?_
  refine (zV_v vMv_eq).trans ?_
  refine zBlock_app.trans ?_
  refine (e2 _ _ _).trans ?_
  rw [ifZ_eq, if_pos (by rfl)]
  refine zSeq_reg.trans ?_
  refine (zV_v vMv_eq).trans ?_
  refine zRet_app.trans ?_
  rfl
theorem c34 {k : Nat} (hk : 420 ≤ k) (Y : YE) (T : TH) (ns : List Int) (fl : Bool) (key : List Nat) (hns : ∀ n ∈ ns, I64 n) (hlen : ns.length < 40) (hkey : key.length ≤ 100) :
    ∃ a, CY (k + 1) Y (.func 34) [.sl ns.length (ns.map iV) fl, .str key] T = some (outV (walkK key ns), T, a) := by
  obtain ⟨v, H', hb, ho⟩ := walk34 hk ns fl key hns hlen hkey
  obtain ⟨nss, hz⟩ := fz_outJ ho
  have h := call_pure (E := E1) (GE := GE E1) (LZ := LZ E1) (Y := Y) (T := T) (f := 34) (zf := G34 E1) (args := [.sl ns.length (ns.map iV) fl, .str key]) (fargs := [.sl ns.length (ns.map iV) fl, .str key]) (ns := []) (ns2 := nss) rfl rfl rfl hb hz
  rw [show (if flat (outV (walkK key ns)) = true then T else T.marks []) = T by split <;> rfl] at h
  exact ⟨_, h⟩
end Go.Proofs.PxR2
