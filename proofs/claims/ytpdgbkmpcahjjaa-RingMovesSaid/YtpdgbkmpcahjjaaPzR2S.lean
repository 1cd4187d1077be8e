/- The law RingMoves: its loops. -/
import Derived.Test.YtpdgbkmpcahjjaaPzR2N
set_option linter.unusedVariables false
set_option linter.unusedSimpArgs false
set_option maxRecDepth 100000
namespace Go.Proofs.PxR2
open Go Go.Px Go.Proofs

structure MV where
  key : List Nat
  node : AV
  b : Nat
  kk : Nat
  back : Bool
def VM (M : MV) (i a bb i2 y z i3 q p mv x : AV) : List AV := [.str M.key, M.node, i, .int .u8 (M.b : Int), iV M.kk, a, .bool M.back, bb, i2, y, z, i3, q, p, mv, x, .bool false]

noncomputable def bodyC (call : CallTT) : CZ := (zSeq (zSeq (zReg fun k => (zP (vInt E1 fLss .lss 3 false true (.v 2) (.k (.int .i64 8)))) k)
  (zCond (.l 0) zSkip (zExit 0)))
  (zSeq (zBlock 1 (zSeq (zReg fun k => (zP (vConv .u64 (.v 2))) ((zP (vBin E1 .shr 5 false false (.v 3) (.l 0))) ((zP (vInt E1 (fGen .and) .and 5 false true (.l 0) (.k (.int .u8 1)))) ((zP (vInt E1 fEql .eql 5 false true (.l 0) (.k (.int .u8 1)))) ((zG (.l 0) true .push (zP (vMv (.v 2)))) ((zG (.l 1) true .push (zP (vMv (.v 4)))) ((zG (.l 2) true .push (zP (vInt E1 fNeq .neq 3 false false (.l 1) (.l 0)))) ((zP (vPick (.l 3) (.l 0) (.k (.bool false)))) k))))))))
  (zCond (.l 0) (zReg fun k => (zP (vMv (.v 5))) ((zStep E1 call ⟨.buildSlice 32 1 [(0, (.v 2))], .push, none, false, 2, (some 0)⟩) ((zStep E1 call ⟨.append 32 32 (.l 1) (.l 0), .push, none, false, 3, (some 1)⟩) ((zV 5 (vMv (.l 0))) k)))) zSkip)))
  (zReg fun k => (zP (vMv (.v 2))) ((zP (vInt E1 fAdd .add 3 false true (.l 0) (.k (.int .i64 1)))) ((zV 2 (vMv (.l 0))) k)))))

abbrev U := AV.undef
def nl : AV := .sl 0 [] true

theorem loopC (call : CallTT) (M : MV) :
    ∀ (d i q : Nat) (H : Heap) (v : AV) (out : List Int) (L : List AV), i + d = 8 → d < q → OwnJ H v out false → out.Nodup → (∀ x ∈ out, 0 ≤ x ∧ x < i ∧ x ≠ M.kk) → out.length ≤ i →
    ∃ L' H' v' out', (∀ kn kx kr, zLoop q (bodyC call) kn kx kr L (VM M (iV i) v nl U U U U U U U U) (rep H) = kx 0 L' (VM M (iV 8) v' nl U U U U U U U U) (rep H')) ∧ OwnJ H' v' out' false ∧ out'.Nodup ∧ (∀ x ∈ out', 0 ≤ x ∧ x < 8 ∧ x ≠ M.kk) ∧ out'.length ≤ 8
  | 0, i, q, H, v, out, L, hi, hq, ho, hnd, hb, hl => by
    obtain ⟨q', rfl⟩ : ∃ q', q = q' + 1 := ⟨q - 1, by omega⟩
    have hi8 : i = 8 := by omega
    subst hi8
    refine ⟨[.bool false], H, v, out, fun kn kx kr => ?_, ho, hnd, by simpa using hb, hl⟩
    rw [zLoop_succ]
    unfold bodyC
    refine zSeq_app.trans ?_
    refine zSeq_reg.trans ?_
    refine (zP_v (vInt_eq fLss_ok rfl rfl rfl)).trans ?_
    refine (zCond_eq (p := false) rfl).trans ?_
    rw [if_neg (by decide)]
    exact zExit_app
  | d + 1, i, q, H, v, out, L, hi, hq, ho, hnd, hb, hl => by
    obtain ⟨q', rfl⟩ : ∃ q', q = q' + 1 := ⟨q - 1, by omega⟩
    have hlt : i < 8 := by omega
    have hw : IntKind.i64.wrap ((i : Int) + 1) = ((i + 1 : Nat) : Int) := by rw [IntKind.wrap_i64]; omega
    obtain ⟨c, Lc, hc⟩ := bit_some M.b i (rep H) (.v 2) (.v 3) (VM M (iV i) v nl U U U U U U U U) (fun _ => rfl) (fun _ => rfl) hlt
    have front : ∃ Lf, ∀ kn kx kr, zLoop (q' + 1) (bodyC call) kn kx kr L (VM M (iV i) v nl U U U U U U U U) (rep H) = (zCond (.l 0) (zReg fun k => (zP (vMv (.v 5))) ((zStep E1 call ⟨.buildSlice 32 1 [(0, (.v 2))], .push, none, false, 2, (some 0)⟩) ((zStep E1 call ⟨.append 32 32 (.l 1) (.l 0), .push, none, false, 3, (some 1)⟩) ((zV 5 (vMv (.l 0))) k)))) zSkip) ((zReg fun k => (zP (vMv (.v 2))) ((zP (vInt E1 fAdd .add 3 false true (.l 0) (.k (.int .i64 1)))) ((zV 2 (vMv (.l 0))) k))) (zLoop q' (bodyC call) kn kx kr) kx kr) (fun j L V H => ifZ (Nat.beq j 1) ((zReg fun k => (zP (vMv (.v 2))) ((zP (vInt E1 fAdd .add 3 false true (.l 0) (.k (.int .i64 1)))) ((zV 2 (vMv (.l 0))) k))) (zLoop q' (bodyC call) kn kx kr) kx kr L V H) (kx j L V H)) kr (.bool (c && ((i : Int) != (M.kk : Int))) :: Lf) (VM M (iV i) v nl U U U U U U U U) (rep H) := by
      cases c with
      | false =>
        refine ⟨[.tup [], .tup [], .tup [], .bool false] ++ Lc, fun kn kx kr => ?_⟩
        rw [zLoop_succ]
        conv => lhs; unfold bodyC
        refine zSeq_app.trans ?_
        refine zSeq_reg.trans ?_
        refine (zP_v (vInt_eq fLss_ok rfl rfl rfl)).trans ?_
        refine (zCond_eq rfl).trans ?_
        rw [if_pos (by simp; omega)]
        refine zSkip_app.trans ?_
        refine zSeq_app.trans ?_
        refine zBlock_app.trans ?_
        refine zSeq_reg.trans ?_
        refine (hc _).trans ?_
        refine (zG_miss rfl).trans ?_
        refine (zG_miss rfl).trans ?_
        refine (zG_miss rfl).trans ?_
        exact zP_v (vPick_eq (q := false) rfl)
      | true =>
        refine ⟨[.bool ((i : Int) != (M.kk : Int)), iV M.kk, iV i, .bool true] ++ Lc, fun kn kx kr => ?_⟩
        rw [zLoop_succ]
        conv => lhs; unfold bodyC
        refine zSeq_app.trans ?_
        refine zSeq_reg.trans ?_
        refine (zP_v (vInt_eq fLss_ok rfl rfl rfl)).trans ?_
        refine (zCond_eq rfl).trans ?_
        rw [if_pos (by simp; omega)]
        refine zSkip_app.trans ?_
        refine zSeq_app.trans ?_
        refine zBlock_app.trans ?_
        refine zSeq_reg.trans ?_
        refine (hc _).trans ?_
        refine (zG_hit rfl).trans ?_
        refine (zP_v vMv_eq).trans ?_
        refine (zG_hit rfl).trans ?_
        refine (zP_v vMv_eq).trans ?_
        refine (zG_hit rfl).trans ?_
        refine (zP_v (vInt_eq fNeq_ok rfl rfl rfl)).trans ?_
        refine (zP_v (vPick_eq (q := true) rfl)).trans ?_
        rw [Bool.true_and]; rfl
    obtain ⟨Lf, front⟩ := front
    cases hcc : (c && ((i : Int) != (M.kk : Int))) with
    | false =>
      rw [hcc] at front
      obtain ⟨L2, H2, v2, out2, e2, h2⟩ := loopC call M d (i + 1) q' H v out [.int .i64 ((i + 1 : Nat) : Int), iV i] (by omega) (by omega) ho hnd (fun x hx => by have := hb x hx; omega) (by omega)
      refine ⟨L2, H2, v2, out2, fun kn kx kr => ?_, h2⟩
      refine (front kn kx kr).trans ?_
      refine (zCond_eq (p := false) rfl).trans ?_
      rw [if_neg (by decide)]
      refine zSkip_app.trans ?_
      refine zReg_eq.trans ?_
      refine (zP_v vMv_eq).trans ?_
      refine (zP_v (vInt_eq fAdd_ok rfl rfl rfl)).trans ?_
      rw [hw]
      refine (zV_v vMv_eq).trans ?_
      exact e2 kn kx kr
    | true =>
      rw [hcc] at front
      have hne : (i : Int) ≠ (M.kk : Int) := by
        have := (Bool.and_eq_true _ _ ▸ hcc).2
        simpa using this
      obtain ⟨H1, v1, L1, e1, ho1, _⟩ := pushJ call 5 2 3 (.v 2) (some 0) (some 1) H v out i (VM M (iV i) v nl U U U U U U U U) (fun _ => rfl) (fun _ => rfl) (by omega) ho
      obtain ⟨L2, H2, v2, out2, e2, h2⟩ := loopC call M d (i + 1) q' H1 v1 (out ++ [(i : Int)]) [.int .i64 ((i + 1 : Nat) : Int), iV i] (by omega) (by omega) ho1 (by
        rw [List.nodup_append]
        exact ⟨hnd, by simp, fun a ha b' hb' => by simp at hb'; subst hb'; have := hb a ha; omega⟩) (fun x hx => by
        rcases List.mem_append.1 hx with hx | hx
        · have := hb x hx; omega
        · simp at hx; subst hx; exact ⟨by omega, by omega, hne⟩) (by simp; omega)
      refine ⟨L2, H2, v2, out2, fun kn kx kr => ?_, h2⟩
      refine (front kn kx kr).trans ?_
      refine (zCond_eq (p := true) rfl).trans ?_
      rw [if_pos rfl]
      refine zReg_eq.trans ?_
      refine (e1 _).trans ?_
      refine zReg_eq.trans ?_
      refine (zP_v vMv_eq).trans ?_
      refine (zP_v (vInt_eq fAdd_ok rfl rfl rfl)).trans ?_
      show zV 2 (vMv (.l 0)) _ (.int .i64 (IntKind.i64.wrap ((i : Int) + 1)) :: _) _ _ = _
      rw [hw]
      refine (zV_v vMv_eq).trans ?_
      exact e2 kn kx kr

/-! ### y without k -/
noncomputable def bodyD (call : CallTT) : CZ := (zSeq (zSeq (zReg fun k => (zP (vLenL (.v 9))) ((zP (vInt E1 fLss .lss 3 false false (.v 8) (.l 0))) k))
  (zCond (.l 0) zSkip (zExit 2)))
  (zSeq (zBlock 3 (zSeq (zReg fun k => (zP (vIndexAddr 1 (.v 9) (.v 8))) ((zL 1 false (.l 0)) ((zP (vInt E1 fNeq .neq 3 false false (.l 0) (.v 4))) k)))
  (zCond (.l 0) (zReg fun k => (zP (vMv (.v 10))) ((zP (vIndexAddr 1 (.v 9) (.v 8))) ((zL 1 false (.l 0)) ((zStep E1 call ⟨.buildSlice 32 1 [(0, (.l 0))], .push, none, false, 5, (some 0)⟩) ((zStep E1 call ⟨.append 32 32 (.l 3) (.l 0), .push, none, false, 6, (some 1)⟩) ((zV 10 (vMv (.l 0))) k)))))) zSkip)))
  (zReg fun k => (zP (vMv (.v 8))) ((zP (vInt E1 fAdd .add 3 false true (.l 0) (.k (.int .i64 1)))) ((zV 8 (vMv (.l 0))) k)))))

theorem loopD (call : CallTT) (M : MV) (a bb x : AV) (y : List Int) (fy : Bool) (hy : y.length < 100) :
    ∀ (d i q : Nat) (H : Heap) (v : AV) (out : List Int) (L : List AV), i + d = y.length → d < q → OwnJ H v out false → out.length ≤ i →
    ∃ L' H' v', (∀ kn kx kr, zLoop q (bodyD call) kn kx kr L (VM M (iV 8) a bb (iV i) (.sl y.length (y.map iV) fy) v U U U U x) (rep H) = kx 2 L' (VM M (iV 8) a bb (iV y.length) (.sl y.length (y.map iV) fy) v' U U U U x) (rep H')) ∧ OwnJ H' v' (out ++ (y.drop i).filter (· != (M.kk : Int))) false ∧ (∀ j o, Apart v j → H[j]? = some o → Apart v' j ∧ H'[j]? = some o)
  | 0, i, q, H, v, out, L, hi, hq, ho, hl => by
    obtain ⟨q', rfl⟩ : ∃ q', q = q' + 1 := ⟨q - 1, by omega⟩
    have hil : i = y.length := by omega
    subst hil
    refine ⟨[.bool false, .int .i64 y.length], H, v, fun kn kx kr => ?_, by simpa using ho, fun j o ha h => ⟨ha, h⟩⟩
    rw [zLoop_succ]
    unfold bodyD
    refine zSeq_app.trans ?_
    refine zSeq_reg.trans ?_
    refine (zP_v (vLenL_sl rfl)).trans ?_
    refine (zP_v (vInt_eq fLss_ok rfl rfl (lss_nat 0 E1))).trans ?_
    rw [show decide (y.length < y.length) = false by simp]
    refine (zCond_eq (p := false) rfl).trans ?_
    rw [if_neg (by decide)]
    exact zExit_app
  | d + 1, i, q, H, v, out, L, hi, hq, ho, hl => by
    obtain ⟨q', rfl⟩ : ∃ q', q = q' + 1 := ⟨q - 1, by omega⟩
    have hlt : i < y.length := by omega
    obtain ⟨n, hs⟩ : ∃ n, y[i]? = some n := ⟨y[i], by simp [hlt]⟩
    have hw : IntKind.i64.wrap ((i : Int) + 1) = ((i + 1 : Nat) : Int) := by rw [IntKind.wrap_i64]; omega
    have front : ∃ Lf, ∀ kn kx kr, zLoop (q' + 1) (bodyD call) kn kx kr L (VM M (iV 8) a bb (iV i) (.sl y.length (y.map iV) fy) v U U U U x) (rep H) = (zCond (.l 0) (zReg fun k => (zP (vMv (.v 10))) ((zP (vIndexAddr 1 (.v 9) (.v 8))) ((zL 1 false (.l 0)) ((zStep E1 call ⟨.buildSlice 32 1 [(0, (.l 0))], .push, none, false, 5, (some 0)⟩) ((zStep E1 call ⟨.append 32 32 (.l 3) (.l 0), .push, none, false, 6, (some 1)⟩) ((zV 10 (vMv (.l 0))) k)))))) zSkip) ((zReg fun k => (zP (vMv (.v 8))) ((zP (vInt E1 fAdd .add 3 false true (.l 0) (.k (.int .i64 1)))) ((zV 8 (vMv (.l 0))) k))) (zLoop q' (bodyD call) kn kx kr) kx kr) (fun j L V H => ifZ (Nat.beq j 3) ((zReg fun k => (zP (vMv (.v 8))) ((zP (vInt E1 fAdd .add 3 false true (.l 0) (.k (.int .i64 1)))) ((zV 8 (vMv (.l 0))) k))) (zLoop q' (bodyD call) kn kx kr) kx kr L V H) (kx j L V H)) kr (.bool (n != (M.kk : Int)) :: Lf) (VM M (iV 8) a bb (iV i) (.sl y.length (y.map iV) fy) v U U U U x) (rep H) := by
      refine ⟨[iV n, .ref (iV n :: (y.drop (i + 1)).map iV)], fun kn kx kr => ?_⟩
      rw [zLoop_succ]
      conv => lhs; unfold bodyD
      refine zSeq_app.trans ?_
      refine zSeq_reg.trans ?_
      refine (zP_v (vLenL_sl rfl)).trans ?_
      refine (zP_v (vInt_eq fLss_ok rfl rfl (lss_nat 0 E1))).trans ?_
      rw [show decide (i < y.length) = true by simp [hlt]]
      refine (zCond_eq (p := true) rfl).trans ?_
      rw [if_pos rfl]
      refine zSkip_app.trans ?_
      refine zSeq_app.trans ?_
      refine zBlock_app.trans ?_
      refine zSeq_reg.trans ?_
      refine (zP_v (vIndexAddr_sl rfl rfl hlt (by simpa using hlt))).trans ?_
      rw [drop_iV hs]
      refine (zL_v (wLoad_ref rfl (by simp) rfl)).trans ?_
      exact zP_v (vInt_eq fNeq_ok rfl rfl rfl)
    obtain ⟨Lf, front⟩ := front
    rw [drop_at hs, List.filter_cons]
    cases hb : (n != (M.kk : Int)) with
    | false =>
      rw [hb] at front
      obtain ⟨L2, H2, v2, e2, h2⟩ := loopD call M a bb x y fy hy d (i + 1) q' H v out [.int .i64 ((i + 1 : Nat) : Int), iV i] (by omega) (by omega) ho (by omega)
      refine ⟨L2, H2, v2, fun kn kx kr => ?_, h2⟩
      refine (front kn kx kr).trans ?_
      refine (zCond_eq (p := false) rfl).trans ?_
      rw [if_neg (by decide)]
      refine zSkip_app.trans ?_
      refine zReg_eq.trans ?_
      refine (zP_v vMv_eq).trans ?_
      refine (zP_v (vInt_eq fAdd_ok rfl rfl rfl)).trans ?_
      rw [hw]
      refine (zV_v vMv_eq).trans ?_
      exact e2 kn kx kr
    | true =>
      rw [hb] at front
      rw [if_pos rfl]
      -- the push
      obtain ⟨H0, u, e0, hou, fr0⟩ := oneJ call 5 (.l 0) (some 0) H n [iV n, .ref (iV n :: (y.drop (i + 1)).map iV), v] (VM M (iV 8) a bb (iV i) (.sl y.length (y.map iV) fy) v U U U U x) rfl
      have hov0 : OwnJ H0 v out false := by
        rcases ho with h | ⟨hne, nm, e, hr⟩
        · exact .inl h
        · exact .inr ⟨hne, nm, e, (fr0 nm _ hr).1⟩
      obtain ⟨H1, v1, e1, ho1, fr1⟩ := catJ call 6 (.l 3) (.l 0) (some 1) H0 v u out [n] false [u, iV n, .ref (iV n :: (y.drop (i + 1)).map iV), v] (VM M (iV 8) a bb (iV i) (.sl y.length (y.map iV) fy) v U U U U x) rfl rfl (by simp; omega) hov0 hou
      have hap : ∀ j o, Apart v j → H[j]? = some o → Apart v1 j := fun j o ha h => (fr1 j o ha (fr0 j o h).1).2
      obtain ⟨L2, H2, v2, e2, ho2, fr2⟩ := loopD call M a bb x y fy hy d (i + 1) q' H1 v1 (out ++ [n]) [.int .i64 ((i + 1 : Nat) : Int), iV i] (by omega) (by omega) ho1 (by simp; omega)
      refine ⟨L2, H2, v2, fun kn kx kr => ?_, by simpa using ho2, fun j o ha h => fr2 j o (hap j o ha h) (fr1 j o ha (fr0 j o h).1).1⟩
      refine (front kn kx kr).trans ?_
      refine (zCond_eq (p := true) rfl).trans ?_
      rw [if_pos rfl]
      refine zReg_eq.trans ?_
      refine (zP_v vMv_eq).trans ?_
      refine (zP_v (vIndexAddr_sl rfl rfl hlt (by simpa using hlt))).trans ?_
      rw [drop_iV hs]
      refine (zL_v (wLoad_ref rfl (by simp) rfl)).trans ?_
      refine (e0 _).trans ?_
      refine (e1 _).trans ?_
      refine (zV_v vMv_eq).trans ?_
      refine zReg_eq.trans ?_
      refine (zP_v vMv_eq).trans ?_
      refine (zP_v (vInt_eq fAdd_ok rfl rfl rfl)).trans ?_
      show zV 8 (vMv (.l 0)) _ (.int .i64 (IntKind.i64.wrap ((i : Int) + 1)) :: _) _ _ = _
      rw [hw]
      refine (zV_v vMv_eq).trans ?_
      exact e2 kn kx kr
end Go.Proofs.PxR2
