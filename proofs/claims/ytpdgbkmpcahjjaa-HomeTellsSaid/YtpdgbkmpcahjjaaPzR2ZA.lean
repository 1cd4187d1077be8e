/- Views: Moved, both ways (printed by genview3.py). -/
import Derived.Test.YtpdgbkmpcahjjaaPzR2ZB
set_option linter.unusedVariables false
set_option linter.unusedSimpArgs false
set_option maxRecDepth 100000
namespace Go.Proofs.PxR2
open Go Go.Px Go.Proofs
theorem intC_drop (l : List Int) {i : Nat} {x : Int} (hs : l[i]? = some x) : (l.map iV).drop (i * 1) = iV x :: (l.map iV).drop (i + 1) := by
  rw [Nat.mul_one, ← List.map_drop, drop_at hs]; simp
def newN (x y : List Int) : List Int := y.filter fun n => !decide (n ∈ x)
noncomputable def body72 (call : CallTT) : CZ := (zSeq (zReg fun k => (zP (vInt E1 fLss .lss 3 false false (.v 1) (.v 2))) k)
  (zSeq (zCond (.l 0) zSkip (zExit 0))
  (zSeq (zBlock 1 (zSeq (zReg fun k => (zP (vIndexAddr 1 (.v 3) (.v 1))) ((zL 1 false (.l 0)) ((zV 5 (vMv (.l 0))) k)))
  (zSeq (zReg fun k => (zCall call 71 [(.v 4), (.v 5)] .push) ((zP (vNot (.l 0))) k))
  (zCond (.l 0) (zReg fun k => (zP (vMv (.v 6))) ((zStep E1 call ⟨.buildSlice 32 1 [(0, (.v 5))], .push, none, false, 2, (some 0)⟩) ((zStep E1 call ⟨.append 32 32 (.l 1) (.l 0), .push, none, false, 3, (some 1)⟩) ((zV 6 (vMv (.l 0))) k)))) zSkip))))
  (zReg fun k => (zP (vInt E1 fAdd .add 3 false true (.v 1) (.k (.int .i64 1)))) ((zV 1 (vMv (.l 0))) k)))))
def V72 (x y : List Int) (fx fy : Bool) (i a5 out : AV) : List AV := [.sl y.length (y.map iV) fy, i, iV y.length, .sl y.length (y.map iV) fy, .sl x.length (x.map iV) fx, a5, out, .sl 0 [] true]
theorem loop72 (k : Nat) (Y : YE) (x y : List Int) (fx fy : Bool) (hx : x.length < k) (hx2 : x.length < 100000) (hl : y.length < 500) :
    ∀ (d i q : Nat) (H : Heap) (out : AV) (o : List Int) (a5 : AV) (L : List AV), i + d = y.length → d < q → OwnJ H out o false → o.length ≤ i →
    ∃ L' H' out' a5', (∀ kn kx kr, zLoop q (body72 (CY (k + 2) Y)) kn kx kr L (V72 x y fx fy (iV i) a5 out) (rep H) = kx 0 L' (V72 x y fx fy (iV y.length) a5' out') (rep H')) ∧ OwnJ H' out' (o ++ newN x (y.drop i)) false
  | 0, i, q, H, out, o, a5, L, hi, hq, ho, hol => by
    obtain ⟨q', rfl⟩ : ∃ q', q = q' + 1 := ⟨q - 1, by omega⟩
    have hil : i = y.length := by omega
    subst hil
    refine ⟨[.bool false], H, out, a5, fun kn kx kr => ?_, by simpa [newN] using ho⟩
    rw [zLoop_succ]
    unfold body72
    refine zSeq_reg.trans ?_
    refine (zP_v (vInt_eq fLss_ok rfl rfl (lss_nat 0 E1))).trans ?_
    rw [show decide (y.length < y.length) = false by simp]
    refine zSeq_app.trans ?_
    refine (zCond_eq (p := false) rfl).trans ?_
    rw [if_neg (by decide)]
    exact zExit_app
  | d + 1, i, q, H, out, o, a5, L, hi, hq, ho, hol => by
    obtain ⟨q', rfl⟩ : ∃ q', q = q' + 1 := ⟨q - 1, by omega⟩
    have hlt : i < y.length := by omega
    obtain ⟨n, hs⟩ : ∃ z, y[i]? = some z := ⟨y[i], by simp [hlt]⟩
    have hw : IntKind.i64.wrap ((i : Int) + 1) = ((i + 1 : Nat) : Int) := by rw [IntKind.wrap_i64]; omega
    have hd := intC_drop y hs
    have hcall := c71 (k := k) Y (rep H) x fx n hx hx2
    have front : ∃ Lf, ∀ kn kx kr, zLoop (q' + 1) (body72 (CY (k + 2) Y)) kn kx kr L (V72 x y fx fy (iV i) a5 out) (rep H) = (zCond (.l 0) (zReg fun k0 => (zP (vMv (.v 6))) ((zStep E1 (CY (k + 2) Y) ⟨.buildSlice 32 1 [(0, (.v 5))], .push, none, false, 2, (some 0)⟩) ((zStep E1 (CY (k + 2) Y) ⟨.append 32 32 (.l 1) (.l 0), .push, none, false, 3, (some 1)⟩) ((zV 6 (vMv (.l 0))) k0)))) zSkip) ((zReg fun k => (zP (vInt E1 fAdd .add 3 false true (.v 1) (.k (.int .i64 1)))) ((zV 1 (vMv (.l 0))) k)) (zLoop q' (body72 (CY (k + 2) Y)) kn kx kr) kx kr) (fun j L V H => ifZ (Nat.beq j 1) ((zReg fun k => (zP (vInt E1 fAdd .add 3 false true (.v 1) (.k (.int .i64 1)))) ((zV 1 (vMv (.l 0))) k)) (zLoop q' (body72 (CY (k + 2) Y)) kn kx kr) kx kr L V H) (kx j L V H)) kr (.bool (!decide (n ∈ x)) :: Lf) (V72 x y fx fy (iV i) (iV n) out) (rep H) := by
      refine ⟨[.bool (decide (n ∈ x))], fun kn kx kr => ?_⟩
      rw [zLoop_succ]
      conv => lhs; unfold body72
      refine zSeq_reg.trans ?_
      refine (zP_v (vInt_eq fLss_ok rfl rfl (lss_nat 0 E1))).trans ?_
      rw [show decide (i < y.length) = true by simp [hlt]]
      refine zSeq_app.trans ?_
      refine (zCond_eq (p := true) rfl).trans ?_
      rw [if_pos rfl]
      refine zSkip_app.trans ?_
      refine zSeq_app.trans ?_
      refine zBlock_app.trans ?_
      refine zSeq_reg.trans ?_
      refine (zP_v (vIndexAddr_sl rfl rfl hlt (by simp; omega))).trans ?_
      rw [hd]
      refine (zL_v (wLoad_ref rfl (by simp) rfl)).trans ?_
      refine (zV_v vMv_eq).trans ?_
      refine zSeq_reg.trans ?_
      refine (zCall_eq hcall).trans ?_
      exact zP_v (vNot_eq rfl)
    obtain ⟨Lf, front⟩ := front
    rw [drop_at hs]
    by_cases hin : n ∈ x
    · rw [show (!decide (n ∈ x)) = false by simp [hin]] at front
      have hin2 : newN x (n :: y.drop (i + 1)) = newN x (y.drop (i + 1)) := by simp [newN, List.filter_cons, hin]
      obtain ⟨L2, H2, out2, a52, e2, h2⟩ := loop72 k Y x y fx fy hx hx2 hl d (i + 1) q' H out o (iV n) [.int .i64 ((i + 1 : Nat) : Int)] (by omega) (by omega) ho (by omega)
      refine ⟨L2, H2, out2, a52, fun kn kx kr => ?_, by rw [hin2]; exact h2⟩
      refine (front kn kx kr).trans ?_
      refine (zCond_eq (p := false) rfl).trans ?_
      rw [if_neg (by decide)]
      refine zSkip_app.trans ?_
      refine zReg_eq.trans ?_
      refine (zP_v (vInt_eq fAdd_ok rfl rfl rfl)).trans ?_
      rw [hw]
      refine (zV_v vMv_eq).trans ?_
      exact e2 kn kx kr
    · rw [show (!decide (n ∈ x)) = true by simp [hin]] at front
      have hin2 : newN x (n :: y.drop (i + 1)) = n :: newN x (y.drop (i + 1)) := by simp [newN, List.filter_cons, hin]
      obtain ⟨H2, u, e0, hou, fr0⟩ := oneJ (CY (k + 2) Y) 2 (.v 5) (some 0) H n [out] (V72 x y fx fy (iV i) (iV n) out) rfl
      have hov0 : OwnJ H2 out o false := ho.fr fun i o h => (fr0 i o h).1
      obtain ⟨H3, v1, e1, ho3, fr1⟩ := catJ (CY (k + 2) Y) 3 (.l 1) (.l 0) (some 1) H2 out u o [n] false (u :: [out]) (V72 x y fx fy (iV i) (iV n) out) rfl rfl (by simp; omega) hov0 hou
      obtain ⟨L2, H4, out2, a52, e2, h2⟩ := loop72 k Y x y fx fy hx hx2 hl d (i + 1) q' H3 v1 (o ++ [n]) (iV n) [.int .i64 ((i + 1 : Nat) : Int)] (by omega) (by omega) ho3 (by simp; omega)
      refine ⟨L2, H4, out2, a52, fun kn kx kr => ?_, by rw [hin2]; simpa using h2⟩
      refine (front kn kx kr).trans ?_
      refine (zCond_eq (p := true) rfl).trans ?_
      rw [if_pos rfl]
      refine zReg_eq.trans ?_
      refine (zP_v vMv_eq).trans ?_
      refine (e0 _).trans ?_
      refine (e1 _).trans ?_
      refine (zV_v vMv_eq).trans ?_
      refine zReg_eq.trans ?_
      refine (zP_v (vInt_eq fAdd_ok rfl rfl rfl)).trans ?_
      show zV 1 (vMv (.l 0)) _ (.int .i64 (IntKind.i64.wrap ((i : Int) + 1)) :: _) _ _ = _
      rw [hw]
      refine (zV_v vMv_eq).trans ?_
      exact e2 kn kx kr
noncomputable def body44 (call : CallTT) : CZ := (zSeq (zSeq (zReg fun k => (zP (vLenL (.v 6))) ((zP (vInt E1 fLss .lss 3 false false (.v 5) (.l 0))) k))
  (zCond (.l 0) zSkip (zExit 0)))
  (zSeq (zBlock 1 (zSeq (zReg fun k => (zP (vIndexAddr 1 (.v 6) (.v 5))) ((zL 1 false (.l 0)) ((zCall call 37 [(.v 7), (.l 0)] .push) ((zP (vNot (.l 0))) k))))
  (zCond (.l 0) (zReg fun k => (zP (vMv (.v 8))) ((zP (vIndexAddr 1 (.v 6) (.v 5))) ((zL 1 false (.l 0)) ((zStep E1 call ⟨.buildSlice 32 1 [(0, (.l 0))], .push, none, false, 5, (some 0)⟩) ((zStep E1 call ⟨.append 32 32 (.l 3) (.l 0), .push, none, false, 6, (some 1)⟩) ((zV 8 (vMv (.l 0))) k)))))) zSkip)))
  (zReg fun k => (zP (vMv (.v 5))) ((zP (vInt E1 fAdd .add 3 false true (.l 0) (.k (.int .i64 1)))) ((zV 5 (vMv (.l 0))) k)))))
def V44 (x y : List Int) (fx fy : Bool) (w1 w2 : VwT) (key : List Nat) (i out : AV) : List AV := [w1.av, w2.av, .loc 0 0, .str key, .loc 1 0, i, .sl y.length (y.map iV) fy, .sl x.length (x.map iV) fx, out, .sl 0 [] true]
theorem loop44 (k : Nat) (Y : YE) (x y : List Int) (fx fy : Bool) (w1 w2 : VwT) (key : List Nat) (hx : x.length < k) (hx2 : x.length < 100000) (hl : y.length < 500) :
    ∀ (d i q : Nat) (H : Heap) (out : AV) (o : List Int) (L : List AV), i + d = y.length → d < q → OwnJ H out o false → o.length ≤ i →
    ∃ L' H' out', (∀ kn kx kr, zLoop q (body44 (CY (k + 2) Y)) kn kx kr L (V44 x y fx fy w1 w2 key (iV i) out) (rep H) = kx 0 L' (V44 x y fx fy w1 w2 key (iV y.length) out') (rep H')) ∧ OwnJ H' out' (o ++ newN x (y.drop i)) false
  | 0, i, q, H, out, o, L, hi, hq, ho, hol => by
    obtain ⟨q', rfl⟩ : ∃ q', q = q' + 1 := ⟨q - 1, by omega⟩
    have hil : i = y.length := by omega
    subst hil
    refine ⟨[.bool false, iV y.length], H, out, fun kn kx kr => ?_, by simpa [newN] using ho⟩
    rw [zLoop_succ]
    unfold body44
    refine zSeq_app.trans ?_
    refine zSeq_reg.trans ?_
    refine (zP_v (vLenL_sl rfl)).trans ?_
    refine (zP_v (vInt_eq fLss_ok rfl rfl (lss_nat 0 E1))).trans ?_
    rw [show decide (y.length < y.length) = false by simp]
    refine (zCond_eq (p := false) rfl).trans ?_
    rw [if_neg (by decide)]
    exact zExit_app
  | d + 1, i, q, H, out, o, L, hi, hq, ho, hol => by
    obtain ⟨q', rfl⟩ : ∃ q', q = q' + 1 := ⟨q - 1, by omega⟩
    have hlt : i < y.length := by omega
    obtain ⟨n, hs⟩ : ∃ z, y[i]? = some z := ⟨y[i], by simp [hlt]⟩
    have hw : IntKind.i64.wrap ((i : Int) + 1) = ((i + 1 : Nat) : Int) := by rw [IntKind.wrap_i64]; omega
    have hd := intC_drop y hs
    have hcall := c37 (k := k + 1) Y (rep H) x fx n (by omega) (by omega)
    have front : ∃ Lf, ∀ kn kx kr, zLoop (q' + 1) (body44 (CY (k + 2) Y)) kn kx kr L (V44 x y fx fy w1 w2 key (iV i) out) (rep H) = (zCond (.l 0) (zReg fun k0 => (zP (vMv (.v 8))) ((zP (vIndexAddr 1 (.v 6) (.v 5))) ((zL 1 false (.l 0)) ((zStep E1 (CY (k + 2) Y) ⟨.buildSlice 32 1 [(0, (.l 0))], .push, none, false, 5, (some 0)⟩) ((zStep E1 (CY (k + 2) Y) ⟨.append 32 32 (.l 3) (.l 0), .push, none, false, 6, (some 1)⟩) ((zV 8 (vMv (.l 0))) k0)))))) zSkip) ((zReg fun k => (zP (vMv (.v 5))) ((zP (vInt E1 fAdd .add 3 false true (.l 0) (.k (.int .i64 1)))) ((zV 5 (vMv (.l 0))) k))) (zLoop q' (body44 (CY (k + 2) Y)) kn kx kr) kx kr) (fun j L V H => ifZ (Nat.beq j 1) ((zReg fun k => (zP (vMv (.v 5))) ((zP (vInt E1 fAdd .add 3 false true (.l 0) (.k (.int .i64 1)))) ((zV 5 (vMv (.l 0))) k))) (zLoop q' (body44 (CY (k + 2) Y)) kn kx kr) kx kr L V H) (kx j L V H)) kr (.bool (!decide (n ∈ x)) :: Lf) (V44 x y fx fy w1 w2 key (iV i) out) (rep H) := by
      refine ⟨[.bool (decide (n ∈ x)), iV n, .ref (iV n :: (y.map iV).drop (i + 1))], fun kn kx kr => ?_⟩
      rw [zLoop_succ]
      conv => lhs; unfold body44
      refine zSeq_app.trans ?_
      refine zSeq_reg.trans ?_
      refine (zP_v (vLenL_sl rfl)).trans ?_
      refine (zP_v (vInt_eq fLss_ok rfl rfl (lss_nat 0 E1))).trans ?_
      rw [show decide (i < y.length) = true by simp [hlt]]
      refine (zCond_eq (p := true) rfl).trans ?_
      rw [if_pos rfl]
      refine zSkip_app.trans ?_
      refine zSeq_app.trans ?_
      refine zBlock_app.trans ?_
      refine zSeq_reg.trans ?_
      refine (zP_v (vIndexAddr_sl rfl rfl hlt (by simp; omega))).trans ?_
      rw [hd]
      refine (zL_v (wLoad_ref rfl (by simp) rfl)).trans ?_
      refine (zCall_eq hcall).trans ?_
      exact zP_v (vNot_eq rfl)
    obtain ⟨Lf, front⟩ := front
    rw [drop_at hs]
    by_cases hin : n ∈ x
    · rw [show (!decide (n ∈ x)) = false by simp [hin]] at front
      have hin2 : newN x (n :: y.drop (i + 1)) = newN x (y.drop (i + 1)) := by simp [newN, List.filter_cons, hin]
      obtain ⟨L2, H2, out2, e2, h2⟩ := loop44 k Y x y fx fy w1 w2 key hx hx2 hl d (i + 1) q' H out o [.int .i64 ((i + 1 : Nat) : Int), iV i] (by omega) (by omega) ho (by omega)
      refine ⟨L2, H2, out2, fun kn kx kr => ?_, by rw [hin2]; exact h2⟩
      refine (front kn kx kr).trans ?_
      refine (zCond_eq (p := false) rfl).trans ?_
      rw [if_neg (by decide)]
      refine zSkip_app.trans ?_
      refine zReg_eq.trans ?_
      refine (zP_v vMv_eq).trans ?_
      refine (zP_v (vInt_eq fAdd_ok rfl rfl rfl)).trans ?_
      rw [hw]
      refine (zV_v vMv_eq).trans ?_
      exact e2 kn kx kr
    · rw [show (!decide (n ∈ x)) = true by simp [hin]] at front
      have hin2 : newN x (n :: y.drop (i + 1)) = n :: newN x (y.drop (i + 1)) := by simp [newN, List.filter_cons, hin]
      obtain ⟨H2, u, e0, hou, fr0⟩ := oneJ (CY (k + 2) Y) 5 (.l 0) (some 0) H n [iV n, .ref (iV n :: (y.map iV).drop (i + 1)), out] (V44 x y fx fy w1 w2 key (iV i) out) rfl
      have hov0 : OwnJ H2 out o false := ho.fr fun i o h => (fr0 i o h).1
      obtain ⟨H3, v1, e1, ho3, fr1⟩ := catJ (CY (k + 2) Y) 6 (.l 3) (.l 0) (some 1) H2 out u o [n] false (u :: [iV n, .ref (iV n :: (y.map iV).drop (i + 1)), out]) (V44 x y fx fy w1 w2 key (iV i) out) rfl rfl (by simp; omega) hov0 hou
      obtain ⟨L2, H4, out2, e2, h2⟩ := loop44 k Y x y fx fy w1 w2 key hx hx2 hl d (i + 1) q' H3 v1 (o ++ [n]) [.int .i64 ((i + 1 : Nat) : Int), iV i] (by omega) (by omega) ho3 (by simp; omega)
      refine ⟨L2, H4, out2, fun kn kx kr => ?_, by rw [hin2]; simpa using h2⟩
      refine (front kn kx kr).trans ?_
      refine (zCond_eq (p := true) rfl).trans ?_
      rw [if_pos rfl]
      refine zReg_eq.trans ?_
      refine (zP_v vMv_eq).trans ?_
      refine (zP_v (vIndexAddr_sl rfl rfl hlt (by simp; omega))).trans ?_
      rw [hd]
      refine (zL_v (wLoad_ref rfl (by simp) rfl)).trans ?_
      refine (e0 _).trans ?_
      refine (e1 _).trans ?_
      refine (zV_v vMv_eq).trans ?_
      refine zReg_eq.trans ?_
      refine (zP_v vMv_eq).trans ?_
      refine (zP_v (vInt_eq fAdd_ok rfl rfl rfl)).trans ?_
      show zV 5 (vMv (.l 0)) _ (.int .i64 (IntKind.i64.wrap ((i : Int) + 1)) :: _) _ _ = _
      rw [hw]
      refine (zV_v vMv_eq).trans ?_
      exact e2 kn kx kr
theorem flat_two (x y : List Int) (fx fy : Bool) (g : Nat → Option AO) : fzL (fzG E1 g fzDeep) [.sl y.length (y.map iV) fy, .sl x.length (x.map iV) fx] = some ([.sl y.length (y.map iV) fy, .sl x.length (x.map iV) fx], []) := rfl
theorem c72 {k : Nat} (Y : YE) (T : TH) (x y : List Int) (fx fy : Bool) (hx : x.length < k) (hx2 : x.length < 100000) (hy : y.length < k) (hl : y.length < 500) :
    CY (k + 3) Y (.func 72) [.sl y.length (y.map iV) fy, .sl x.length (x.map iV) fx] T = some (outV (newN x y), T, ⟨[], [], false⟩) := by
  obtain ⟨L1, H1, out1, a51, e1, ho1⟩ := loop72 k [] x y fx fy hx hx2 hl y.length 0 (k + 2) [] (.sl 0 [] true) [] .undef [] (by omega) (by omega) (.inl ⟨rfl, rfl⟩) (by simp)
  obtain ⟨nss, hz⟩ := fz_outJ ho1
  simp only [List.drop_zero, List.nil_append] at hz
  refine call_nomark (k := k + 2) (zf := G72 E1) (r := out1) (T2 := rep H1) rfl rfl (flat_two x y fx fy) ?_ hz
  have e0 : ∀ q, bodyZ E1 (CY (k + 2)) [] q (G72 E1) [.sl y.length (y.map iV) fy, .sl x.length (x.map iV) fx] (rep []) = (G72 E1).z (CY (k + 2)) [] q (finZ E1 [.tmp (.v 7)]) (fun _ _ _ _ => none) (finZ E1 [.tmp (.v 7)]) [] [.sl y.length (y.map iV) fy, .undef, .undef, .undef, .sl x.length (x.map iV) fx, .undef, .undef, .undef] (rep []) := by intro q; kernel_rfl
  refine (e0 _).trans ?_
  unfold G72
  dsimp only
  refine zSeq_reg.trans ?_
  refine (zV_v vMv_eq).trans ?_
  refine zSeq_reg.trans ?_
  refine (zV_v vMv_eq).trans ?_
  refine zSeq_app.trans ?_
  refine zSeq_app.trans ?_
  refine zReg_eq.trans ?_
  refine (zV_v vMv_eq).trans ?_
  refine (zV_v (vLenL_sl rfl)).trans ?_
  refine (zV_v vMv_eq).trans ?_
  refine zBlock_app.trans ?_
  refine (e1 _ _ _).trans ?_
  rw [ifZ_eq, if_pos (by rfl)]
  refine zSeq_reg.trans ?_
  refine (zV_v vMv_eq).trans ?_
  refine zRet_app.trans ?_
  rfl
theorem flat_vvk (v w : VwT) (key : List Nat) (g : Nat → Option AO) : fzL (fzG E1 g fzDeep) [v.av, w.av, .str key] = some ([v.av, w.av, .str key], []) := rfl
def H43 (v w : VwT) : Heap := [.row 25 [v.m, v.c] false, .row 25 [w.m, w.c] false]
theorem c43 {k : Nat} (hk : 600 ≤ k) (Y : YE) (T : TH) (v w : VwT) (hv : OkV v) (hw : OkV w) (key : List Nat) (hkey : key.length ≤ 100) :
    CY (k + 1) Y (.func 43) [v.av, w.av, .str key] T = some (outV (newN (homeN v key) (homeN w key)), T, ⟨[], [], false⟩) := by
  obtain ⟨j, rfl⟩ : ∃ j, k = j + 3 := ⟨k - 3, by omega⟩
  have hlv := homeN_len v hv key
  have hlw := homeN_len w hw key
  obtain ⟨f1, h1⟩ := c39 (k := j + 2) (by omega) [] (rep (H43 v w ++ List.replicate 3 .dead)) w hw key hkey
  obtain ⟨f2, h2⟩ := c39 (k := j + 2) (by omega) [] (rep (H43 v w ++ List.replicate 3 .dead)) v hv key hkey
  have h3 := c72 (k := j) [] (rep (H43 v w ++ List.replicate 3 .dead)) (homeN v key) (homeN w key) f2 f1 (by omega) (by omega) (by omega) (by omega)
  obtain ⟨fo, ho⟩ := outV_sl (newN (homeN v key) (homeN w key))
  rw [ho] at h3 ⊢
  refine call_nomark (k := j + 3) (zf := G43 E1) (ns2 := []) (r := .sl _ _ fo) (T2 := rep (H43 v w ++ List.replicate 3 .dead)) rfl rfl (flat_vvk v w key) ?_ rfl
  have e0 : ∀ q, bodyZ E1 (CY (j + 3)) [] q (G43 E1) [v.av, w.av, .str key] (rep []) = (G43 E1).z (CY (j + 3)) [] q (finZ E1 [.tmp (.v 5)]) (fun _ _ _ _ => none) (finZ E1 [.tmp (.v 5)]) [] [v.av, w.av, .undef, .str key, .undef, .undef] (rep []) := by intro q; kernel_rfl
  refine (e0 _).trans ?_
  unfold G43
  dsimp only
  refine zSeq_reg.trans ?_
  refine (zStep_newH rfl (box25 (x := v.m) (y := v.c) rfl)).trans ?_
  refine (zStep_newH rfl (box25 (x := w.m) (y := w.c) rfl)).trans ?_
  refine (zV_v vMv_eq).trans ?_
  refine zSeq_app.trans ?_
  refine zDreg_eq.trans ?_
  refine (zLD_v (wLoad_loc (nm := 1) (off := 0) (cs := [w.m, w.c]) rfl rfl (by simp) rfl) rfl spOk_nil).trans ?_
  refine (zCallD_idle h1 rfl).trans ?_
  refine (zLD_v (wLoad_loc (nm := 0) (off := 0) (cs := [v.m, v.c]) rfl rfl (by simp) rfl) rfl (spOk_apart rfl spOk_nil)).trans ?_
  refine (zCallD_idle h2 rfl).trans ?_
  refine (zCallD_idle h3 rfl).trans ?_
  refine (zVD_v vMv_eq).trans ?_
  refine zRet_app.trans ?_
  rfl
theorem c44 {k : Nat} (hk : 600 ≤ k) (Y : YE) (T : TH) (v w : VwT) (hv : OkV v) (hw : OkV w) (key : List Nat) (hkey : key.length ≤ 100) :
    CY (k + 1) Y (.func 44) [v.av, w.av, .str key] T = some (outV (newN (homeN v key) (homeN w key)), T, ⟨[], [], false⟩) := by
  obtain ⟨j, rfl⟩ : ∃ j, k = j + 2 := ⟨k - 2, by omega⟩
  have hlv := homeN_len v hv key
  have hlw := homeN_len w hw key
  obtain ⟨f1, h1⟩ := c40 (k := j + 1) (by omega) [] (rep (H43 v w ++ List.replicate 2 .dead)) v hv key hkey
  obtain ⟨f2, h2⟩ := c40 (k := j + 1) (by omega) [] (rep (H43 v w ++ List.replicate 2 .dead)) w hw key hkey
  obtain ⟨L1, H1, out1, e1, ho1⟩ := loop44 j [] (homeN v key) (homeN w key) f1 f2 v w key (by omega) (by omega) (by omega) (homeN w key).length 0 (j + 2) (H43 v w ++ List.replicate 2 .dead) (.sl 0 [] true) [] [] (by omega) (by omega) (.inl ⟨rfl, rfl⟩) (by simp)
  obtain ⟨nss, hz⟩ := fz_outJ ho1
  simp only [List.drop_zero, List.nil_append] at hz
  refine call_nomark (k := j + 2) (zf := G44 E1) (r := out1) (T2 := rep H1) rfl rfl (flat_vvk v w key) ?_ hz
  have e0 : ∀ q, bodyZ E1 (CY (j + 2)) [] q (G44 E1) [v.av, w.av, .str key] (rep []) = (G44 E1).z (CY (j + 2)) [] q (finZ E1 [.tmp (.v 9)]) (fun _ _ _ _ => none) (finZ E1 [.tmp (.v 9)]) [] [v.av, w.av, .undef, .str key, .undef, .undef, .undef, .undef, .undef, .undef] (rep []) := by intro q; kernel_rfl
  refine (e0 _).trans ?_
  unfold G44
  dsimp only
  refine zSeq_reg.trans ?_
  refine (zStep_newH rfl (box25 (x := v.m) (y := v.c) rfl)).trans ?_
  refine (zStep_newH rfl (box25 (x := w.m) (y := w.c) rfl)).trans ?_
  refine (zV_v vMv_eq).trans ?_
  refine zSeq_app.trans ?_
  refine zDreg_eq.trans ?_
  refine (zLD_v (wLoad_loc (nm := 0) (off := 0) (cs := [v.m, v.c]) rfl rfl (by simp) rfl) rfl spOk_nil).trans ?_
  refine (zCallD_idle h1 rfl).trans ?_
  refine (zLD_v (wLoad_loc (nm := 1) (off := 0) (cs := [w.m, w.c]) rfl rfl (by simp) rfl) rfl (spOk_apart rfl spOk_nil)).trans ?_
  refine (zCallD_idle h2 rfl).trans ?_
  refine (zVD_v vMv_eq).trans ?_
  refine (zVD_v vMv_eq).trans ?_
  refine zSeq_reg.trans ?_
  refine (zV_v vMv_eq).trans ?_
  refine zSeq_app.trans ?_
  refine zSeq_app.trans ?_
  refine zReg_eq.trans ?_
  refine (zV_v vMv_eq).trans ?_
  refine zBlock_app.trans ?_
  refine (e1 _ _ _).trans ?_
  rw [ifZ_eq, if_pos (by rfl)]
  refine zSeq_reg.trans ?_
  refine (zV_v vMv_eq).trans ?_
  refine zRet_app.trans ?_
  rfl
end Go.Proofs.PxR2
