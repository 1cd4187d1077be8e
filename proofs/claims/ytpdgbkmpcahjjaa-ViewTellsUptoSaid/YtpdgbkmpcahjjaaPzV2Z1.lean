/- Views: members, copies; who is in. -/
import Derived.Test.YtpdgbkmpcahjjaaPzV2A
set_option linter.unusedVariables false
set_option linter.unusedSimpArgs false
set_option maxRecDepth 100000
namespace Go.Proofs.PxV2
open Go Go.Px Go.Proofs
abbrev Mem := Int × Nat
abbrev Cop := List Nat × Nat × Nat
def memC : List Mem → List AV
 | [] => []
 | (d, n) :: l => iV d :: .int .u64 (n : Int) :: memC l
def copC : List Cop → List AV
 | [] => []
 | (s, n, m) :: l => .str s :: .int .u64 (n : Int) :: .int .u64 (m : Int) :: copC l
theorem memC_len : ∀ l, (memC l).length = l.length * 2
 | [] => rfl
 | (d, n) :: l => by simp [memC, memC_len l]; omega
theorem copC_len : ∀ l, (copC l).length = l.length * 3
 | [] => rfl
 | (d, n, m) :: l => by simp [copC, copC_len l]; omega
theorem mem_drop : ∀ (l : List Mem) (i : Nat) (d : Int) (n : Nat), l[i]? = some (d, n) → (memC l).drop (i * 2) = iV d :: .int .u64 (n : Int) :: (memC l).drop (i * 2 + 2)
 | [], i, d, n, h => by simp at h
 | (e, q) :: l, 0, d, n, h => by simp at h; obtain ⟨rfl, rfl⟩ := h; rfl
 | (e, q) :: l, i + 1, d, n, h => by
  have ih := mem_drop l i d n (by simpa using h)
  have e1 : (memC ((e, q) :: l)).drop ((i + 1) * 2) = (memC l).drop (i * 2) := by
   rw [show (i + 1) * 2 = i * 2 + 1 + 1 by omega]; rfl
  have e2 : (memC ((e, q) :: l)).drop ((i + 1) * 2 + 2) = (memC l).drop (i * 2 + 2) := by
   rw [show (i + 1) * 2 + 2 = i * 2 + 2 + 1 + 1 by omega]; rfl
  rw [e1, e2, ih]
theorem cop_drop : ∀ (l : List Cop) (i : Nat) (s : List Nat) (n m : Nat), l[i]? = some (s, n, m) → (copC l).drop (i * 3) = .str s :: .int .u64 (n : Int) :: .int .u64 (m : Int) :: (copC l).drop (i * 3 + 3)
 | [], i, s, n, m, h => by simp at h
 | (t, p, q) :: l, 0, s, n, m, h => by simp at h; obtain ⟨rfl, rfl, rfl⟩ := h; rfl
 | (t, p, q) :: l, i + 1, s, n, m, h => by
  have ih := cop_drop l i s n m (by simpa using h)
  have e1 : (copC ((t, p, q) :: l)).drop ((i + 1) * 3) = (copC l).drop (i * 3) := by
   rw [show (i + 1) * 3 = i * 3 + 1 + 1 + 1 by omega]; rfl
  have e2 : (copC ((t, p, q) :: l)).drop ((i + 1) * 3 + 3) = (copC l).drop (i * 3 + 3) := by
   rw [show (i + 1) * 3 + 3 = i * 3 + 3 + 1 + 1 + 1 by omega]; rfl
  rw [e1, e2, ih]
structure VwT where
 M : List Mem
 C : List Cop
 fM : Bool
 fC : Bool
def VwT.m (v : VwT) : AV := .sl v.M.length (memC v.M) v.fM
def VwT.c (v : VwT) : AV := .sl v.C.length (copC v.C) v.fC
def VwT.av (v : VwT) : AV := .agg [v.m, v.c]
theorem box25 {L V : List AV} {H : Heap} {a : O} {x y : AV} (ha : gO L V a = .agg [x, y]) : evalFA E1 L V H (.box 25 a) = some (.new (.row 25 [x, y] false) (fun nm => .loc nm 0), Acc.none) := by
 have h1 : E1.ty 25 = some ⟨.struct [(0, 22), (1, 23)], 2, 48, [.sl 0 [] true, .sl 0 [] true]⟩ := rfl
 simp [evalFA, h1, ha, cellsOf]
theorem alloc55 {L V : List AV} {H : Heap} : evalFA E1 L V H (.alloc 55) = some (.new (.row 55 [.int .i64 0, .int .u64 0] false) (fun nm => .loc nm 0), Acc.none) := rfl
theorem store55 {L V : List AV} {H : Heap} {a b : O} {nm : Nat} {c d : AV} {x y : AV} (ha : gO L V a = .loc nm 0) (hr : H[nm]? = some (.row 55 [c, d] false)) (hb : gO L V b = .agg [x, y]) :
  evalFA E1 L V H (.store 55 a b) = some (.put nm (.row 55 [x, y] false) (.tup []), ⟨[], [nm], false⟩) := by
 have h1 : E1.ty 55 = some ⟨.struct [(0, 3), (1, 40)], 2, 16, [.int .i64 0, .int .u64 0]⟩ := rfl
 simp [evalFA, storeA, h1, ha, hr, hb, cellsOf, lay]
def inN (l : List Mem) : List Int := (l.filter fun x => x.2 % 2 == 1).map (·.1)
theorem rem2 (n : Nat) : intBin .rem .u64 (n : Int) 2 = some (.int .u64 ((n % 2 : Nat) : Int)) := by
 have h : (n : Int).tmod 2 = ((n % 2 : Nat) : Int) := by
  rw [Int.tmod_eq_emod_of_nonneg (by omega)]; omega
 simp [intBin]
 rw [h]; omega
theorem eq1 (n : Nat) : intBin .eql .u64 (n : Int) 1 = some (.bool (n == 1)) := by
 show some (AV.bool ((n : Int) == 1)) = _
 congr 2
 by_cases h : n = 1
 ·subst h; rfl
 ·rw [beq_eq_false_iff_ne.2 h, beq_eq_false_iff_ne.2 (by omega)]
noncomputable def body20 (call : CallTT) : CZ := xbody20 E1 call
def V20 (v : AV) (i n m a5 out : AV) : List AV := [v, .loc 0 0, i, n, m, a5, out, .sl 0 [] true]
theorem loop20 (call : CallTT) (w : VwT) (hl : w.M.length < 500) :
  ∀ (d i q : Nat) (H : Heap) (out : AV) (o : List Int) (a5 : AV) (L : List AV), i + d = w.M.length → d < q → OwnJ H out o false → o.length ≤ i →
  ∃ L' H' out' a5', (∀ kn kx kr, zLoop q (body20 call) kn kx kr L (V20 w.av (iV i) (iV w.M.length) w.m a5 out) (rep H) = kx 0 L' (V20 w.av (iV w.M.length) (iV w.M.length) w.m a5' out') (rep H')) ∧ OwnJ H' out' (o ++ inN (w.M.drop i)) false
 | 0, i, q, H, out, o, a5, L, hi, hq, ho, hol => by
  obtain ⟨q', rfl⟩ : ∃ q', q = q' + 1 := ⟨q - 1, by omega⟩
  have hil : i = w.M.length := by omega
  subst hil
  refine ⟨[.bool false], H, out, a5, fun kn kx kr => ?_, by simpa [inN] using ho⟩
  rw [zLoop_succ]
  unfold body20 xbody20
  refine zqR <| (zP_v (vInt_eq fLss_ok rfl rfl (lss_nat 0 E1))).trans ?_
  rw [show decide (w.M.length < w.M.length) = false by simp]
  refine zqA <| (zCond_eq (p := false) rfl).trans ?_
  rw [if_neg (by decide)]
  exact zExit_app
 | d + 1, i, q, H, out, o, a5, L, hi, hq, ho, hol => by
  obtain ⟨q', rfl⟩ : ∃ q', q = q' + 1 := ⟨q - 1, by omega⟩
  have hlt : i < w.M.length := by omega
  obtain ⟨⟨dd, n⟩, hs⟩ : ∃ x, w.M[i]? = some x := ⟨w.M[i], by simp [hlt]⟩
  have hw : IntKind.i64.wrap ((i : Int) + 1) = ((i + 1 : Nat) : Int) := by rw [IntKind.wrap_i64]; omega
  have hcl := memC_len w.M
  have hd := mem_drop w.M i dd n hs
  obtain ⟨H1, eH1⟩ : ∃ H1, H1 = H ++ [AO.row 55 [iV dd, .int .u64 (n : Int)] false] := ⟨_, rfl⟩
  have hr1 : H1[H.length]? = some (.row 55 [iV dd, .int .u64 (n : Int)] false) := by rw [eH1]; exact get_last
  have ho1 : OwnJ H1 out o false := by rw [eH1]; exact ho.app _
  have front : ∃ Lf, ∀ kn kx kr, zLoop (q' + 1) (body20 call) kn kx kr L (V20 w.av (iV i) (iV w.M.length) w.m a5 out) (rep H) = (zCond (.l 0) (zReg fun k => (zP (vMv (.v 6))) ((zP (vFieldAddr 0 (.v 5))) ((zL 1 false (.l 0)) ((zStep E1 call ⟨.buildSlice 32 1 [(0, (.l 0))], .push, none, false, 3, (some 0)⟩) ((zStep E1 call ⟨.append 32 32 (.l 3) (.l 0), .push, none, false, 4, (some 1)⟩) ((zV 6 (vMv (.l 0))) k)))))) zSkip) ((zReg fun k => (zP (vInt E1 fAdd .add 3 false true (.v 2) (.k (.int .i64 1)))) ((zV 2 (vMv (.l 0))) k)) (zLoop q' (body20 call) kn kx kr) kx kr) (fun j L V H => ifZ (Nat.beq j 1) ((zReg fun k => (zP (vInt E1 fAdd .add 3 false true (.v 2) (.k (.int .i64 1)))) ((zV 2 (vMv (.l 0))) k)) (zLoop q' (body20 call) kn kx kr) kx kr L V H) (kx j L V H)) kr (.bool (n % 2 == 1) :: Lf) (V20 w.av (iV i) (iV w.M.length) w.m (.loc H.length 0) out) (rep H1) := by
   refine ⟨[.int .u64 ((n % 2 : Nat) : Int), .int .u64 (n : Int), .loc H.length (0 + 1)], fun kn kx kr => ?_⟩
   rw [zLoop_succ]
   conv => lhs; unfold body20 xbody20
   refine zqR <| (zP_v (vInt_eq fLss_ok rfl rfl (lss_nat 0 E1))).trans ?_
   rw [show decide (i < w.M.length) = true by simp [hlt]]
   refine zqA <| (zCond_eq (p := true) rfl).trans ?_
   rw [if_pos rfl]
   refine zqK <| zqA <| zBlock_app.trans <| zqR <| (zP_v (vIndexAddr_sl rfl rfl hlt (by omega))).trans ?_
   rw [hd]
   refine (zL_v (wLoad_ref rfl (by simp) rfl)).trans ?_
   refine (zStep_newH rfl alloc55).trans ?_
   refine (zStep_putH rfl (store55 (nm := H.length) rfl get_last rfl)).trans ?_
   rw [set_app_last, ← eH1]
   refine zqR <| (zP_v (vFieldAddr_loc rfl)).trans <| (zL_v (wLoad_loc (nm := H.length) (off := 0 + 1) rfl hr1 (by simp) rfl)).trans <| (zP_v (vInt_eq (fGen_ok (by simp) (by simp)) rfl rfl (rem2 n))).trans ?_
   exact zP_v (vInt_eq fEql_ok rfl rfl (eq1 _))
  obtain ⟨Lf, front⟩ := front
  rw [drop_at hs]
  cases hb : (n % 2 == 1) with
  | false =>
   rw [hb] at front
   have hin : inN ((dd, n) :: w.M.drop (i + 1)) = inN (w.M.drop (i + 1)) := by simp [inN, List.filter_cons, hb]
   obtain ⟨L2, H2, out2, a52, e2, h2⟩ := loop20 call w hl d (i + 1) q' H1 out o (.loc H.length 0) [.int .i64 ((i + 1 : Nat) : Int)] (by omega) (by omega) ho1 (by omega)
   refine ⟨L2, H2, out2, a52, fun kn kx kr => ?_, by rw [hin]; exact h2⟩
   refine (front kn kx kr).trans <| (zCond_eq (p := false) rfl).trans ?_
   rw [if_neg (by decide)]
   refine zqK <| zReg_eq.trans <| (zP_v (vInt_eq fAdd_ok rfl rfl rfl)).trans ?_
   rw [hw]
   refine zqV ?_
   exact e2 kn kx kr
  | true =>
   rw [hb] at front
   have hin : inN ((dd, n) :: w.M.drop (i + 1)) = dd :: inN (w.M.drop (i + 1)) := by simp [inN, List.filter_cons, hb]
   obtain ⟨H2, u, e0, hou, fr0⟩ := oneJ call 3 (.l 0) (some 0) H1 dd [iV dd, .loc H.length (0 + 0), out] (V20 w.av (iV i) (iV w.M.length) w.m (.loc H.length 0) out) rfl
   have hov0 : OwnJ H2 out o false := ho1.fr fun i o h => (fr0 i o h).1
   obtain ⟨H3, v1, e1, ho3, fr1⟩ := catJ call 4 (.l 3) (.l 0) (some 1) H2 out u o [dd] false [u, iV dd, .loc H.length (0 + 0), out] (V20 w.av (iV i) (iV w.M.length) w.m (.loc H.length 0) out) rfl rfl (by simp; omega) hov0 hou
   obtain ⟨L2, H4, out2, a52, e2, h2⟩ := loop20 call w hl d (i + 1) q' H3 v1 (o ++ [dd]) (.loc H.length 0) [.int .i64 ((i + 1 : Nat) : Int)] (by omega) (by omega) ho3 (by simp; omega)
   refine ⟨L2, H4, out2, a52, fun kn kx kr => ?_, by rw [hin]; simpa using h2⟩
   refine (front kn kx kr).trans <| (zCond_eq (p := true) rfl).trans ?_
   rw [if_pos rfl]
   refine zReg_eq.trans <| (zP_v vMv_eq).trans <| (zP_v (vFieldAddr_loc rfl)).trans <| (zL_v (wLoad_loc (nm := H.length) (off := 0 + 0) rfl hr1 (by simp) rfl)).trans <| (e0 _).trans <| (e1 _).trans <| zqV <| zReg_eq.trans <| (zP_v (vInt_eq fAdd_ok rfl rfl rfl)).trans ?_
   show zV 2 (vMv (.l 0)) _ (.int .i64 (IntKind.i64.wrap ((i : Int) + 1)) :: _) _ _ = _
   rw [hw]
   refine zqV ?_
   exact e2 kn kx kr
theorem in20 (cy : CallYT) (Y : YE) (k : Nat) (w : VwT) (hk : w.M.length < k) (hl : w.M.length < 500) :
  ∃ v H', bodyZ E1 cy Y k (G20 E1) [w.av] (rep []) = some (v, rep H') ∧ OwnJ H' v (inN w.M) false := by
 obtain ⟨L1, H1, out1, a51, e1, ho1⟩ := loop20 (cy Y) w hl w.M.length 0 k [.row 25 [w.m, w.c] false] (.sl 0 [] true) [] .undef [.loc 0 (0 + 0)] (by omega) hk (.inl ⟨rfl, rfl⟩) (by simp)
 refine ⟨out1, H1, ?_, by simpa using ho1⟩
 have e0 : ∀ q, bodyZ E1 cy Y q (G20 E1) [w.av] (rep []) = (G20 E1).z cy Y q (finZ E1 [.tmp (.v 7)]) (fun _ _ _ _ => none) (finZ E1 [.tmp (.v 7)]) [] [w.av, .undef, .undef, .undef, .undef, .undef, .undef, .undef] (rep []) := by intro q; kernel_rfl
 refine (e0 _).trans ?_
 unfold G20
 dsimp only
 refine zqR ?_
 refine (zStep_newH rfl (box25 (x := w.m) (y := w.c) rfl)).trans ?_
 refine zqV <| zqR <| zqV <| zqA <| zqA <| zReg_eq.trans <| (zP_v (vFieldAddr_loc rfl)).trans <| (zDstW_v (wLoad_loc (nm := 0) (off := 0 + 0) (cs := [w.m, w.c]) rfl rfl (by simp) rfl)).trans <| (zV_v (vLenL_sl rfl)).trans <| zqV <| zBlock_app.trans <| (e1 _ _ _).trans ?_
 rw [ifZ_eq, if_pos (by rfl)]
 refine zqR <| zqV <| zRet_app.trans ?_
 rfl
end Go.Proofs.PxV2
