/- The law RingAll. -/
import Derived.Test.YtpdgbkmpcahjjaaPzR2N
set_option linter.unusedVariables false
set_option linter.unusedSimpArgs false
set_option maxRecDepth 100000
namespace Go.Proofs.PxR2
open Go Go.Px Go.Proofs

def VA (key : List Nat) (b : Nat) (nV : AV) (i v v4 i2 : AV) : List AV := [.str key, i, .int .u8 (b : Int), v, v4, i2, nV, .undef, .undef, .undef, .bool false]

noncomputable def bodyA (call : CallTT) : CZ := (zSeq (zSeq (zReg fun k => (zP (vInt E1 fLss .lss 3 false true (.v 1) (.k (.int .i64 8)))) k)
  (zCond (.l 0) zSkip (zExit 0)))
  (zSeq (zBlock 1 (zSeq (zReg fun k => (zP (vConv .u64 (.v 1))) ((zP (vBin E1 .shr 5 false false (.v 2) (.l 0))) ((zP (vInt E1 (fGen .and) .and 5 false true (.l 0) (.k (.int .u8 1)))) ((zP (vInt E1 fEql .eql 5 false true (.l 0) (.k (.int .u8 1)))) k))))
  (zCond (.l 0) (zReg fun k => (zP (vMv (.v 3))) ((zStep E1 call ⟨.buildSlice 32 1 [(0, (.v 1))], .push, none, false, 2, (some 0)⟩) ((zStep E1 call ⟨.append 32 32 (.l 1) (.l 0), .push, none, false, 3, (some 1)⟩) ((zV 3 (vMv (.l 0))) k)))) zSkip)))
  (zReg fun k => (zP (vMv (.v 1))) ((zP (vInt E1 fAdd .add 3 false true (.l 0) (.k (.int .i64 1)))) ((zV 1 (vMv (.l 0))) k)))))

theorem loopA (call : CallTT) (key : List Nat) (b : Nat) (nV : AV) :
    ∀ (d i q : Nat) (H : Heap) (v : AV) (out : List Int) (L : List AV), i + d = 8 → d < q → OwnJ H v out false → out.Nodup → (∀ x ∈ out, 0 ≤ x ∧ x < i) → out.length ≤ i →
    ∃ L' H' v' out', (∀ kn kx kr, zLoop q (bodyA call) kn kx kr L (VA key b nV (iV i) v .undef .undef) (rep H) = kx 0 L' (VA key b nV (iV 8) v' .undef .undef) (rep H')) ∧ OwnJ H' v' out' false ∧ out'.Nodup ∧ (∀ x ∈ out', 0 ≤ x ∧ x < 8) ∧ out'.length ≤ 8
  | 0, i, q, H, v, out, L, hi, hq, ho, hnd, hb, hl => by
    obtain ⟨q', rfl⟩ : ∃ q', q = q' + 1 := ⟨q - 1, by omega⟩
    have hi8 : i = 8 := by omega
    subst hi8
    refine ⟨[.bool false], H, v, out, fun kn kx kr => ?_, ho, hnd, by simpa using hb, hl⟩
    rw [zLoop_succ]
    unfold bodyA
    refine zSeq_app.trans ?_
    refine zSeq_reg.trans ?_
    refine (zP_v (vInt_eq fLss_ok rfl rfl rfl)).trans ?_
    refine (zCond_eq (p := false) rfl).trans ?_
    rw [if_neg (by decide)]
    exact zExit_app
  | d + 1, i, q, H, v, out, L, hi, hq, ho, hnd, hb, hl => by
    obtain ⟨q', rfl⟩ : ∃ q', q = q' + 1 := ⟨q - 1, by omega⟩
    have hlt : i < 8 := by omega
    have hw : IntKind.i64.wrap ((i : Int) + 1) = ((i + 1 : Nat) : Int) := by rw [IntKind.wrap_i64]; omega
    obtain ⟨c, Lc, hc⟩ := bit_some b i (rep H) (.v 1) (.v 2) (VA key b nV (iV i) v .undef .undef) (fun _ => rfl) (fun _ => rfl) hlt
    have front : ∀ kn kx kr, zLoop (q' + 1) (bodyA call) kn kx kr L (VA key b nV (iV i) v .undef .undef) (rep H) = (zCond (.l 0) (zReg fun k => (zP (vMv (.v 3))) ((zStep E1 call ⟨.buildSlice 32 1 [(0, (.v 1))], .push, none, false, 2, (some 0)⟩) ((zStep E1 call ⟨.append 32 32 (.l 1) (.l 0), .push, none, false, 3, (some 1)⟩) ((zV 3 (vMv (.l 0))) k)))) zSkip) ((zReg fun k => (zP (vMv (.v 1))) ((zP (vInt E1 fAdd .add 3 false true (.l 0) (.k (.int .i64 1)))) ((zV 1 (vMv (.l 0))) k))) (zLoop q' (bodyA call) kn kx kr) kx kr) (fun j L V H => ifZ (Nat.beq j 1) ((zReg fun k => (zP (vMv (.v 1))) ((zP (vInt E1 fAdd .add 3 false true (.l 0) (.k (.int .i64 1)))) ((zV 1 (vMv (.l 0))) k))) (zLoop q' (bodyA call) kn kx kr) kx kr L V H) (kx j L V H)) kr (.bool c :: Lc) (VA key b nV (iV i) v .undef .undef) (rep H) := fun kn kx kr => by
      rw [zLoop_succ]
      conv => lhs; unfold bodyA
      refine zSeq_app.trans ?_
      refine zSeq_reg.trans ?_
      refine (zP_v (vInt_eq fLss_ok rfl rfl rfl)).trans ?_
      refine (zCond_eq rfl).trans ?_
      rw [if_pos (by simp; omega)]
      refine zSkip_app.trans ?_
      refine zSeq_app.trans ?_
      refine zBlock_app.trans ?_
      refine zSeq_reg.trans ?_
      exact hc _
    cases c with
    | false =>
      obtain ⟨L2, H2, v2, out2, e2, h2⟩ := loopA call key b nV d (i + 1) q' H v out [.int .i64 ((i + 1 : Nat) : Int), iV i] (by omega) (by omega) ho hnd (fun x hx => by have := hb x hx; omega) (by omega)
      refine ⟨L2, H2, v2, out2, fun kn kx kr => ?_, h2⟩
      refine (front kn kx kr).trans ?_
      refine (zCond_eq (p := false) rfl).trans ?_
      rw [if_neg (by decide)]
      refine zSkip_app.trans ?_
      refine zReg_eq.trans ?_
      refine (zP_v vMv_eq).trans ?_
      refine (zP_v (vInt_eq fAdd_ok rfl rfl rfl)).trans ?_
      rw [hw]
      refine (zV_v vMv_eq).trans ?_
      exact e2 kn kx kr
    | true =>
      obtain ⟨H1, v1, L1, e1, ho1, _⟩ := pushJ call 3 2 3 (.v 1) (some 0) (some 1) H v out i (VA key b nV (iV i) v .undef .undef) (fun _ => rfl) (fun _ => rfl) (by omega) ho
      obtain ⟨L2, H2, v2, out2, e2, h2⟩ := loopA call key b nV d (i + 1) q' H1 v1 (out ++ [(i : Int)]) [.int .i64 ((i + 1 : Nat) : Int), iV i] (by omega) (by omega) ho1 (by
        rw [List.nodup_append]
        exact ⟨hnd, by simp, fun a ha b' hb' => by simp at hb'; subst hb'; have := hb a ha; omega⟩) (fun x hx => by
        rcases List.mem_append.1 hx with hx | hx
        · have := hb x hx; omega
        · simp at hx; omega) (by simp; omega)
      refine ⟨L2, H2, v2, out2, fun kn kx kr => ?_, h2⟩
      refine (front kn kx kr).trans ?_
      refine (zCond_eq (p := true) rfl).trans ?_
      rw [if_pos rfl]
      refine zReg_eq.trans ?_
      refine (e1 _).trans ?_
      refine zReg_eq.trans ?_
      refine (zP_v vMv_eq).trans ?_
      refine (zP_v (vInt_eq fAdd_ok rfl rfl rfl)).trans ?_
      show zV 1 (vMv (.l 0)) _ (.int .i64 (IntKind.i64.wrap ((i : Int) + 1)) :: _) _ _ = _
      rw [hw]
      refine (zV_v vMv_eq).trans ?_
      exact e2 kn kx kr

noncomputable def bodyB (call : CallTT) : CZ := (zSeq (zSeq (zReg fun k => (zP (vLenL (.v 3))) ((zP (vInt E1 fLss .lss 3 false false (.v 5) (.l 0))) k))
  (zCond (.l 0) zSkip (zExit 2)))
  (zSeq (zBlock 3 (zSeq (zReg fun k => (zP (vIndexAddr 1 (.v 3) (.v 5))) ((zL 1 false (.l 0)) ((zCall call 37 [(.v 4), (.l 0)] .push) ((zP (vNot (.l 0))) k))))
  (zCond (.l 0) (zSeq (zReg fun k => (zV 10 (vMv (.k (.bool false)))) k)
  zRet) zSkip)))
  (zReg fun k => (zP (vMv (.v 5))) ((zP (vInt E1 fAdd .add 3 false true (.l 0) (.k (.int .i64 1)))) ((zV 5 (vMv (.l 0))) k)))))

theorem loopB (k : Nat) (Y : YE) (key : List Nat) (b : Nat) (nV : AV) (v : AV) (H : Heap) (out w : List Int) (f fr : Bool) (ho : OwnJ H v out fr) (hw : ∀ x ∈ out, x ∈ w) (hwl : w.length < k) (hwl2 : w.length < 1000) (hol : out.length < 1000) :
    ∀ (d i q : Nat) (L : List AV), i + d = out.length → d < q →
    ∃ L', ∀ kn kx kr, zLoop q (bodyB (CY (k + 1) Y)) kn kx kr L (VA key b nV (iV 8) v (.sl w.length (w.map iV) f) (iV i)) (rep H) = kx 2 L' (VA key b nV (iV 8) v (.sl w.length (w.map iV) f) (iV out.length)) (rep H)
  | 0, i, q, L, hi, hq => by
    obtain ⟨q', rfl⟩ : ∃ q', q = q' + 1 := ⟨q - 1, by omega⟩
    have hi8 : i = out.length := by omega
    subst hi8
    refine ⟨[.bool false, .int .i64 out.length], fun kn kx kr => ?_⟩
    rw [zLoop_succ]
    unfold bodyB
    refine zSeq_app.trans ?_
    refine zSeq_reg.trans ?_
    refine (zP_v (ho.len rfl)).trans ?_
    refine (zP_v (vInt_eq fLss_ok rfl rfl (lss_nat 0 E1))).trans ?_
    rw [show decide (out.length < out.length) = false by simp]
    refine (zCond_eq (p := false) rfl).trans ?_
    rw [if_neg (by decide)]
    exact zExit_app
  | d + 1, i, q, L, hi, hq => by
    obtain ⟨q', rfl⟩ : ∃ q', q = q' + 1 := ⟨q - 1, by omega⟩
    have hlt : i < out.length := by omega
    obtain ⟨n, hs⟩ : ∃ n, out[i]? = some n := ⟨out[i], by simp [hlt]⟩
    have hnw : n ∈ w := hw n (List.mem_of_getElem? hs)
    have hw1 : IntKind.i64.wrap ((i : Int) + 1) = ((i + 1 : Nat) : Int) := by rw [IntKind.wrap_i64]; omega
    obtain ⟨L2, e2⟩ := loopB k Y key b nV v H out w f fr ho hw hwl hwl2 hol d (i + 1) q' [.int .i64 ((i + 1 : Nat) : Int), iV i] (by omega) (by omega)
    have hc := c37 (k := k) Y (rep H) w f n hwl (by omega)
    rw [show decide (n ∈ w) = true by simp [hnw]] at hc
    refine ⟨L2, fun kn kx kr => ?_⟩
    rw [zLoop_succ]
    refine Eq.trans ?_ (e2 kn kx kr)
    conv => lhs; unfold bodyB
    refine zSeq_app.trans ?_
    refine zSeq_reg.trans ?_
    refine (zP_v (ho.len rfl)).trans ?_
    refine (zP_v (vInt_eq fLss_ok rfl rfl (lss_nat 0 E1))).trans ?_
    rw [show decide (i < out.length) = true by simp [hlt]]
    refine (zCond_eq (p := true) rfl).trans ?_
    rw [if_pos rfl]
    refine zSkip_app.trans ?_
    refine zSeq_app.trans ?_
    refine zBlock_app.trans ?_
    refine zSeq_reg.trans ?_
    obtain ⟨p, ec⟩ := cellJ ho hs (L := []) (V := VA key b nV (iV 8) v (.sl w.length (w.map iV) f) (iV i)) (a := .v 3) (b := .v 5) rfl rfl ((zCall (CY (k + 1) Y) 37 [(.v 4), (.l 0)] .push) ((zP (vNot (.l 0))) (zCond (.l 0) (zSeq (zReg fun k => (zV 10 (vMv (.k (.bool false)))) k) zRet) zSkip ((zReg fun k => (zP (vMv (.v 5))) ((zP (vInt E1 fAdd .add 3 false true (.l 0) (.k (.int .i64 1)))) ((zV 5 (vMv (.l 0))) k))) (zLoop q' (bodyB (CY (k + 1) Y)) kn kx kr) kx kr) (fun j L V H => ifZ (Nat.beq j 3) ((zReg fun k => (zP (vMv (.v 5))) ((zP (vInt E1 fAdd .add 3 false true (.l 0) (.k (.int .i64 1)))) ((zV 5 (vMv (.l 0))) k))) (zLoop q' (bodyB (CY (k + 1) Y)) kn kx kr) kx kr L V H) (kx j L V H)) kr)))
    refine ec.trans ?_
    refine (zCall_eq hc).trans ?_
    refine (zP_v (vNot_eq (b := true) rfl)).trans ?_
    refine (zCond_eq (p := false) rfl).trans ?_
    rw [if_neg (by decide)]
    refine zSkip_app.trans ?_
    refine zReg_eq.trans ?_
    refine (zP_v vMv_eq).trans ?_
    refine (zP_v (vInt_eq fAdd_ok rfl rfl rfl)).trans ?_
    rw [hw1]
    exact zV_v vMv_eq
end Go.Proofs.PxR2
