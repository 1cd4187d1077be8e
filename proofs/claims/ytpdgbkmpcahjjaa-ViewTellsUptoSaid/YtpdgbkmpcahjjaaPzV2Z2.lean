/- Views: the reference's In, Of. -/
import Derived.Test.YtpdgbkmpcahjjaaPzV2Z1
set_option linter.unusedVariables false
set_option linter.unusedSimpArgs false
set_option maxRecDepth 100000
namespace Go.Proofs.PxV2
open Go Go.Px Go.Proofs
noncomputable def body21 (call : CallTT) : CZ := xbody21 E1 call
def V21 (v : AV) (i out : AV) : List AV := [v, i, .loc 0 0, out, .sl 0 [] true]
theorem loop21 (call : CallTT) (w : VwT) (hl : w.M.length < 500) :
  ∀ (d i q : Nat) (H : Heap) (out : AV) (o : List Int) (L : List AV), i + d = w.M.length → d < q → OwnJ H out o false → o.length ≤ i → H[0]? = some (.row 25 [w.m, w.c] false) → Apart out 0 →
  ∃ L' H' out', (∀ kn kx kr, zLoop q (body21 call) kn kx kr L (V21 w.av (iV i) out) (rep H) = kx 0 L' (V21 w.av (iV w.M.length) out') (rep H')) ∧ OwnJ H' out' (o ++ inN (w.M.drop i)) false
 | 0, i, q, H, out, o, L, hi, hq, ho, hol, h0, hap => by
  obtain ⟨q', rfl⟩ : ∃ q', q = q' + 1 := ⟨q - 1, by omega⟩
  have hil : i = w.M.length := by omega
  subst hil
  refine ⟨[.bool false, .int .i64 w.M.length, w.m, .loc 0 (0 + 0)], H, out, fun kn kx kr => ?_, by simpa [inN] using ho⟩
  rw [zLoop_succ]
  unfold body21 xbody21
  refine zqA <| zqR <| (zP_v (vFieldAddr_loc rfl)).trans <| (zL_v (wLoad_loc (nm := 0) (off := 0 + 0) rfl h0 (by simp) rfl)).trans <| (zP_v (vLenL_sl rfl)).trans <| (zP_v (vInt_eq fLss_ok rfl rfl (lss_nat 0 E1))).trans ?_
  rw [show decide (w.M.length < w.M.length) = false by simp]
  refine (zCond_eq (p := false) rfl).trans ?_
  rw [if_neg (by decide)]
  exact zExit_app
 | d + 1, i, q, H, out, o, L, hi, hq, ho, hol, h0, hap => by
  obtain ⟨q', rfl⟩ : ∃ q', q = q' + 1 := ⟨q - 1, by omega⟩
  have hlt : i < w.M.length := by omega
  obtain ⟨⟨dd, n⟩, hs⟩ : ∃ x, w.M[i]? = some x := ⟨w.M[i], by simp [hlt]⟩
  have hw : IntKind.i64.wrap ((i : Int) + 1) = ((i + 1 : Nat) : Int) := by rw [IntKind.wrap_i64]; omega
  have hcl := memC_len w.M
  have hd := mem_drop w.M i dd n hs
  have front : ∃ Lf, ∀ kn kx kr, zLoop (q' + 1) (body21 call) kn kx kr L (V21 w.av (iV i) out) (rep H) = (zCond (.l 0) (zReg fun k => (zP (vMv (.v 3))) ((zP (vFieldAddr 0 (.v 2))) ((zL 1 false (.l 0)) ((zP (vIndexAddr 2 (.l 0) (.v 1))) ((zP (vFieldAddr 0 (.l 0))) ((zL 1 false (.l 0)) ((zStep E1 call ⟨.buildSlice 32 1 [(0, (.l 0))], .push, none, false, 7, (some 0)⟩) ((zStep E1 call ⟨.append 32 32 (.l 6) (.l 0), .push, none, false, 8, (some 1)⟩) ((zV 3 (vMv (.l 0))) k))))))))) zSkip) ((zReg fun k => (zP (vMv (.v 1))) ((zP (vInt E1 fAdd .add 3 false true (.l 0) (.k (.int .i64 1)))) ((zV 1 (vMv (.l 0))) k))) (zLoop q' (body21 call) kn kx kr) kx kr) (fun j L V H => ifZ (Nat.beq j 1) ((zReg fun k => (zP (vMv (.v 1))) ((zP (vInt E1 fAdd .add 3 false true (.l 0) (.k (.int .i64 1)))) ((zV 1 (vMv (.l 0))) k))) (zLoop q' (body21 call) kn kx kr) kx kr L V H) (kx j L V H)) kr (.bool (n % 2 == 1) :: Lf) (V21 w.av (iV i) out) (rep H) := by
   refine ⟨[.int .u64 ((n % 2 : Nat) : Int), .int .u64 (n : Int), .ref (.int .u64 (n : Int) :: (memC w.M).drop (i * 2 + 2)), .ref (iV dd :: .int .u64 (n : Int) :: (memC w.M).drop (i * 2 + 2)), w.m, .loc 0 (0 + 0)], fun kn kx kr => ?_⟩
   rw [zLoop_succ]
   conv => lhs; unfold body21 xbody21
   refine zqA <| zqR <| (zP_v (vFieldAddr_loc rfl)).trans <| (zL_v (wLoad_loc (nm := 0) (off := 0 + 0) rfl h0 (by simp) rfl)).trans <| (zP_v (vLenL_sl rfl)).trans <| (zP_v (vInt_eq fLss_ok rfl rfl (lss_nat 0 E1))).trans ?_
   rw [show decide (i < w.M.length) = true by simp [hlt]]
   refine (zCond_eq (p := true) rfl).trans ?_
   rw [if_pos rfl]
   refine zqK <| zqA <| zBlock_app.trans <| zqR <| (zP_v (vFieldAddr_loc rfl)).trans <| (zL_v (wLoad_loc (nm := 0) (off := 0 + 0) rfl h0 (by simp) rfl)).trans <| (zP_v (vIndexAddr_sl rfl rfl hlt (by omega))).trans ?_
   rw [hd]
   refine (zP_v (vFieldAddr_ref rfl (by simp))).trans <| (zL_v (wLoad_ref rfl (by simp) rfl)).trans <| (zP_v (vInt_eq (fGen_ok (by simp) (by simp)) rfl rfl (rem2 n))).trans ?_
   exact zP_v (vInt_eq fEql_ok rfl rfl (eq1 _))
  obtain ⟨Lf, front⟩ := front
  rw [drop_at hs]
  cases hb : (n % 2 == 1) with
  | false =>
   rw [hb] at front
   have hin : inN ((dd, n) :: w.M.drop (i + 1)) = inN (w.M.drop (i + 1)) := by simp [inN, List.filter_cons, hb]
   obtain ⟨L2, H2, out2, e2, h2⟩ := loop21 call w hl d (i + 1) q' H out o [.int .i64 ((i + 1 : Nat) : Int), iV i] (by omega) (by omega) ho (by omega) h0 hap
   refine ⟨L2, H2, out2, fun kn kx kr => ?_, by rw [hin]; exact h2⟩
   refine (front kn kx kr).trans <| (zCond_eq (p := false) rfl).trans ?_
   rw [if_neg (by decide)]
   refine zqK <| zReg_eq.trans <| (zP_v vMv_eq).trans <| (zP_v (vInt_eq fAdd_ok rfl rfl rfl)).trans ?_
   rw [hw]
   refine zqV ?_
   exact e2 kn kx kr
  | true =>
   rw [hb] at front
   have hin : inN ((dd, n) :: w.M.drop (i + 1)) = dd :: inN (w.M.drop (i + 1)) := by simp [inN, List.filter_cons, hb]
   obtain ⟨H2, u, e0, hou, fr0⟩ := oneJ call 7 (.l 0) (some 0) H dd [iV dd, .ref (iV dd :: .int .u64 (n : Int) :: (memC w.M).drop (i * 2 + 2)), .ref (iV dd :: .int .u64 (n : Int) :: (memC w.M).drop (i * 2 + 2)), w.m, .loc 0 (0 + 0), out] (V21 w.av (iV i) out) rfl
   have hov0 : OwnJ H2 out o false := ho.fr fun i o h => (fr0 i o h).1
   obtain ⟨H3, v1, e1, ho3, fr1⟩ := catJ call 8 (.l 6) (.l 0) (some 1) H2 out u o [dd] false [u, iV dd, .ref (iV dd :: .int .u64 (n : Int) :: (memC w.M).drop (i * 2 + 2)), .ref (iV dd :: .int .u64 (n : Int) :: (memC w.M).drop (i * 2 + 2)), w.m, .loc 0 (0 + 0), out] (V21 w.av (iV i) out) rfl rfl (by simp; omega) hov0 hou
   have h03 := fr1 0 _ hap (fr0 0 _ h0).1
   obtain ⟨L2, H4, out2, e2, h2⟩ := loop21 call w hl d (i + 1) q' H3 v1 (o ++ [dd]) [.int .i64 ((i + 1 : Nat) : Int), iV i] (by omega) (by omega) ho3 (by simp; omega) h03.1 h03.2
   refine ⟨L2, H4, out2, fun kn kx kr => ?_, by rw [hin]; simpa using h2⟩
   refine (front kn kx kr).trans <| (zCond_eq (p := true) rfl).trans ?_
   rw [if_pos rfl]
   refine zReg_eq.trans <| (zP_v vMv_eq).trans <| (zP_v (vFieldAddr_loc rfl)).trans <| (zL_v (wLoad_loc (nm := 0) (off := 0 + 0) rfl h0 (by simp) rfl)).trans <| (zP_v (vIndexAddr_sl rfl rfl hlt (by omega))).trans ?_
   rw [hd]
   refine (zP_v (vFieldAddr_ref rfl (by simp))).trans <| (zL_v (wLoad_ref rfl (by simp) rfl)).trans <| (e0 _).trans <| (e1 _).trans <| zqV <| zReg_eq.trans <| (zP_v vMv_eq).trans <| (zP_v (vInt_eq fAdd_ok rfl rfl rfl)).trans ?_
   show zV 1 (vMv (.l 0)) _ (.int .i64 (IntKind.i64.wrap ((i : Int) + 1)) :: _) _ _ = _
   rw [hw]
   refine zqV ?_
   exact e2 kn kx kr
theorem in21 (cy : CallYT) (Y : YE) (k : Nat) (w : VwT) (hk : w.M.length < k) (hl : w.M.length < 500) :
  ∃ v H', bodyZ E1 cy Y k (G21 E1) [w.av] (rep []) = some (v, rep H') ∧ OwnJ H' v (inN w.M) false := by
 obtain ⟨L1, H1, out1, e1, ho1⟩ := loop21 (cy Y) w hl w.M.length 0 k [.row 25 [w.m, w.c] false] (.sl 0 [] true) [] [] (by omega) hk (.inl ⟨rfl, rfl⟩) (by simp) rfl (fun b off n sz e => by cases e)
 refine ⟨out1, H1, ?_, by simpa using ho1⟩
 have e0 : ∀ q, bodyZ E1 cy Y q (G21 E1) [w.av] (rep []) = (G21 E1).z cy Y q (finZ E1 [.tmp (.v 4)]) (fun _ _ _ _ => none) (finZ E1 [.tmp (.v 4)]) [] [w.av, .undef, .undef, .undef, .undef] (rep []) := by intro q; kernel_rfl
 refine (e0 _).trans ?_
 unfold G21
 dsimp only
 refine zqR ?_
 refine (zStep_newH rfl (box25 (x := w.m) (y := w.c) rfl)).trans ?_
 refine zqV <| zqR <| zqV <| zqA <| zqA <| zReg_eq.trans <| zqV <| zBlock_app.trans <| (e1 _ _ _).trans ?_
 rw [ifZ_eq, if_pos (by rfl)]
 refine zqR <| zqV <| zRet_app.trans ?_
 rfl
theorem flat_one {v : AV} (h : ∀ g, fzG E1 g fzDeep v = some (v, [])) (g : Nat → Option AO) : fzL (fzG E1 g fzDeep) [v] = some ([v], []) := by
 simp only [fzL, h, Option.bind_eq_bind, Option.bind_some]; rfl
theorem fz_view (w : VwT) (g : Nat → Option AO) : fzG E1 g fzDeep w.av = some (w.av, []) := rfl
theorem c20 {k : Nat} (Y : YE) (T : TH) (w : VwT) (hk : w.M.length < k) (hl : w.M.length < 500) : CY (k + 1) Y (.func 20) [w.av] T = some (outV (inN w.M), T, ⟨[], [], false⟩) := by
 obtain ⟨v, H', hb, ho⟩ := in20 (CY k) [] k w hk hl
 obtain ⟨nss, hz⟩ := fz_outJ ho
 have h := call_pure (E := E1) (GE := GE E1) (LZ := LZ E1) (Y := Y) (T := T) (f := 20) (zf := G20 E1) (args := [w.av]) (fargs := [w.av]) (ns := []) (ns2 := nss) rfl rfl (flat_one (fz_view w) _) hb hz
 rw [show (if flat (outV (inN w.M)) = true then T else T.marks []) = T by split <;> rfl] at h
 exact h
theorem c21 {k : Nat} (Y : YE) (T : TH) (w : VwT) (hk : w.M.length < k) (hl : w.M.length < 500) : CY (k + 1) Y (.func 21) [w.av] T = some (outV (inN w.M), T, ⟨[], [], false⟩) := by
 obtain ⟨v, H', hb, ho⟩ := in21 (CY k) [] k w hk hl
 obtain ⟨nss, hz⟩ := fz_outJ ho
 have h := call_pure (E := E1) (GE := GE E1) (LZ := LZ E1) (Y := Y) (T := T) (f := 21) (zf := G21 E1) (args := [w.av]) (fargs := [w.av]) (ns := []) (ns2 := nss) rfl rfl (flat_one (fz_view w) _) hb hz
 rw [show (if flat (outV (inN w.M)) = true then T else T.marks []) = T by split <;> rfl] at h
 exact h
def ofN (C : List Cop) (key : List Nat) : Int := match C.find? fun c => c.1 == key with
 | some c => IntKind.i64.wrap (c.2.2 : Int)
 | none => 2
noncomputable def body25 : CZ := xbody25 E1 (fun _ _ _ => none)
def V25 (v : AV) (i : AV) (key : List Nat) (r : AV) : List AV := [v, i, .loc 0 0, .str key, r]
theorem loop25 (w : VwT) (key : List Nat) (hl : w.C.length < 100000) (H : Heap) (h0 : H[0]? = some (.row 25 [w.m, w.c] false)) :
  ∀ (d i q : Nat) (L : List AV), i + d = w.C.length → d < q →
  (∀ c, (w.C.drop i).find? (fun c => c.1 == key) = some c → ∃ L' i', ∀ kn kx kr, zLoop q body25 kn kx kr L (V25 w.av (iV i) key (iV 0)) (rep H) = kr L' (V25 w.av i' key (iV (IntKind.i64.wrap (c.2.2 : Int)))) (rep H)) ∧
  ((w.C.drop i).find? (fun c => c.1 == key) = none → ∃ L' i', ∀ kn kx kr, zLoop q body25 kn kx kr L (V25 w.av (iV i) key (iV 0)) (rep H) = kx 0 L' (V25 w.av i' key (iV 0)) (rep H))
 | 0, i, q, L, hi, hq => by
  obtain ⟨q', rfl⟩ : ∃ q', q = q' + 1 := ⟨q - 1, by omega⟩
  have hil : i = w.C.length := by omega
  subst hil
  refine ⟨fun c h => by simp at h, fun _ => ⟨[.bool false, .int .i64 w.C.length, w.c, .loc 0 (0 + 1)], iV w.C.length, fun kn kx kr => ?_⟩⟩
  rw [zLoop_succ]
  unfold body25 xbody25
  refine zqA <| zqR <| (zP_v (vFieldAddr_loc rfl)).trans <| (zL_v (wLoad_loc (nm := 0) (off := 0 + 1) rfl h0 (by simp) rfl)).trans <| (zP_v (vLenL_sl rfl)).trans <| (zP_v (vInt_eq fLss_ok rfl rfl (lss_nat 0 E1))).trans ?_
  rw [show decide (w.C.length < w.C.length) = false by simp]
  refine (zCond_eq (p := false) rfl).trans ?_
  rw [if_neg (by decide)]
  exact zExit_app
 | d + 1, i, q, L, hi, hq => by
  obtain ⟨q', rfl⟩ : ∃ q', q = q' + 1 := ⟨q - 1, by omega⟩
  have hlt : i < w.C.length := by omega
  obtain ⟨⟨s, n, m⟩, hs⟩ : ∃ x, w.C[i]? = some x := ⟨w.C[i], by simp [hlt]⟩
  have hw : IntKind.i64.wrap ((i : Int) + 1) = ((i + 1 : Nat) : Int) := by rw [IntKind.wrap_i64]; omega
  have hcl := copC_len w.C
  have hd := cop_drop w.C i s n m hs
  obtain ⟨ih1, ih2⟩ := loop25 w key hl H h0 d (i + 1) q' [.int .i64 ((i + 1 : Nat) : Int), iV i] (by omega) (by omega)
  have front : ∃ Lf, ∀ kn kx kr, zLoop (q' + 1) body25 kn kx kr L (V25 w.av (iV i) key (iV 0)) (rep H) = (zCond (.l 0) (zSeq (zReg fun k => (zP (vFieldAddr 1 (.v 2))) ((zL 1 false (.l 0)) ((zP (vIndexAddr 3 (.l 0) (.v 1))) ((zP (vFieldAddr 2 (.l 0))) ((zL 1 false (.l 0)) ((zP (vConv .i64 (.l 0))) ((zV 4 (vMv (.l 0))) k))))))) zRet) zSkip) ((zReg fun k => (zP (vMv (.v 1))) ((zP (vInt E1 fAdd .add 3 false true (.l 0) (.k (.int .i64 1)))) ((zV 1 (vMv (.l 0))) k))) (zLoop q' body25 kn kx kr) kx kr) (fun j L V H => ifZ (Nat.beq j 1) ((zReg fun k => (zP (vMv (.v 1))) ((zP (vInt E1 fAdd .add 3 false true (.l 0) (.k (.int .i64 1)))) ((zV 1 (vMv (.l 0))) k))) (zLoop q' body25 kn kx kr) kx kr L V H) (kx j L V H)) kr (.bool (s == key) :: Lf) (V25 w.av (iV i) key (iV 0)) (rep H) := by
   refine ⟨[.str s, .ref (.str s :: .int .u64 (n : Int) :: .int .u64 (m : Int) :: (copC w.C).drop (i * 3 + 3)), .ref (.str s :: .int .u64 (n : Int) :: .int .u64 (m : Int) :: (copC w.C).drop (i * 3 + 3)), w.c, .loc 0 (0 + 1)], fun kn kx kr => ?_⟩
   rw [zLoop_succ]
   conv => lhs; unfold body25 xbody25
   refine zqA <| zqR <| (zP_v (vFieldAddr_loc rfl)).trans <| (zL_v (wLoad_loc (nm := 0) (off := 0 + 1) rfl h0 (by simp) rfl)).trans <| (zP_v (vLenL_sl rfl)).trans <| (zP_v (vInt_eq fLss_ok rfl rfl (lss_nat 0 E1))).trans ?_
   rw [show decide (i < w.C.length) = true by simp [hlt]]
   refine (zCond_eq (p := true) rfl).trans ?_
   rw [if_pos rfl]
   refine zqK <| zqA <| zBlock_app.trans <| zqR <| (zP_v (vFieldAddr_loc rfl)).trans <| (zL_v (wLoad_loc (nm := 0) (off := 0 + 1) rfl h0 (by simp) rfl)).trans <| (zP_v (vIndexAddr_sl rfl rfl hlt (by omega))).trans ?_
   rw [hd]
   refine (zP_v (vFieldAddr_ref rfl (by simp))).trans <| (zL_v (wLoad_ref rfl (by simp) rfl)).trans ?_
   exact zP_v (vInt_bin rfl rfl rfl)
  obtain ⟨Lf, front⟩ := front
  rw [drop_at hs, List.find?_cons]
  cases hb : (s == key) with
  | true =>
   rw [hb] at front
   refine ⟨fun c h => ?_, fun h => by simp [hb] at h⟩
   simp only [hb] at h
   cases h
   refine ⟨[.int .i64 (IntKind.i64.wrap (m : Int)), .int .u64 (m : Int), .ref (.int .u64 (m : Int) :: (copC w.C).drop (i * 3 + 3)), .ref (.str s :: .int .u64 (n : Int) :: .int .u64 (m : Int) :: (copC w.C).drop (i * 3 + 3)), w.c, .loc 0 (0 + 1)], iV i, fun kn kx kr => ?_⟩
   refine (front kn kx kr).trans <| (zCond_eq (p := true) rfl).trans ?_
   rw [if_pos rfl]
   refine zqR <| (zP_v (vFieldAddr_loc rfl)).trans <| (zL_v (wLoad_loc (nm := 0) (off := 0 + 1) rfl h0 (by simp) rfl)).trans <| (zP_v (vIndexAddr_sl rfl rfl hlt (by omega))).trans ?_
   rw [hd]
   refine (zP_v (vFieldAddr_ref rfl (by simp))).trans <| (zL_v (wLoad_ref rfl (by simp) rfl)).trans <| (zP_v (vConv_eq rfl)).trans <| zqV ?_
   exact zRet_app
  | false =>
   rw [hb] at front
   have next : ∀ kn kx kr, zLoop (q' + 1) body25 kn kx kr L (V25 w.av (iV i) key (iV 0)) (rep H) = zLoop q' body25 kn kx kr [.int .i64 ((i + 1 : Nat) : Int), iV i] (V25 w.av (iV (i + 1 : Nat)) key (iV 0)) (rep H) := fun kn kx kr => by
    refine (front kn kx kr).trans <| (zCond_eq (p := false) rfl).trans ?_
    rw [if_neg (by decide)]
    refine zqK <| zReg_eq.trans <| (zP_v vMv_eq).trans <| (zP_v (vInt_eq fAdd_ok rfl rfl rfl)).trans ?_
    rw [hw]
    exact zV_v vMv_eq
   refine ⟨fun c h => ?_, fun h => ?_⟩
   ·obtain ⟨L', i', e⟩ := ih1 c h
    exact ⟨L', i', fun kn kx kr => (next kn kx kr).trans (e kn kx kr)⟩
   ·obtain ⟨L', i', e⟩ := ih2 h
    exact ⟨L', i', fun kn kx kr => (next kn kx kr).trans (e kn kx kr)⟩
theorem of25 (cy : CallYT) (Y : YE) (k : Nat) (w : VwT) (key : List Nat) (hk : w.C.length < k) (hl : w.C.length < 100000) :
  bodyZ E1 cy Y k (G25 E1) [w.av, .str key] (rep []) = some (iV (ofN w.C key), rep [.row 25 [w.m, w.c] false]) := by
 obtain ⟨h1, h2⟩ := loop25 w key hl [.row 25 [w.m, w.c] false] rfl w.C.length 0 k [] (by omega) hk
 have e0 : ∀ q, bodyZ E1 cy Y q (G25 E1) [w.av, .str key] (rep []) = (G25 E1).z cy Y q (finZ E1 [.tmp (.v 4)]) (fun _ _ _ _ => none) (finZ E1 [.tmp (.v 4)]) [] [w.av, .undef, .undef, .str key, .undef] (rep []) := by intro q; kernel_rfl
 refine (e0 _).trans ?_
 unfold G25
 dsimp only
 refine zqR ?_
 refine (zStep_newH rfl (box25 (x := w.m) (y := w.c) rfl)).trans ?_
 refine zqV <| zqA <| zqA <| zReg_eq.trans <| zqV <| zBlock_app.trans ?_
 unfold ofN
 cases hf : w.C.find? (fun c => c.1 == key) with
 | some c =>
  obtain ⟨L', i', e⟩ := h1 c (by simpa using hf)
  refine (e _ _ _).trans ?_
  rfl
 | none =>
  obtain ⟨L', i', e⟩ := h2 (by simpa using hf)
  refine (e _ _ _).trans ?_
  rw [ifZ_eq, if_pos (by rfl)]
  refine zqR <| zqV <| zRet_app.trans ?_
  rfl
theorem flat_view2 (w : VwT) (key : List Nat) (g : Nat → Option AO) : fzL (fzG E1 g fzDeep) [w.av, .str key] = some ([w.av, .str key], []) := rfl
theorem c25 {k : Nat} (Y : YE) (T : TH) (w : VwT) (key : List Nat) (hk : w.C.length < k) (hl : w.C.length < 100000) : CY (k + 1) Y (.func 25) [w.av, .str key] T = some (iV (ofN w.C key), T, ⟨[], [], false⟩) :=
 call_flat (zf := G25 E1) rfl rfl (flat_view2 w key) (of25 _ _ _ w key hk hl) (fun _ => rfl) rfl
end Go.Proofs.PxV2
