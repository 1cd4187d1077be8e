/- ring.round: its two loops. -/
import Derived.Test.YtpdgbkmpcahjjaaPzR2W5
set_option linter.unusedVariables false
set_option linter.unusedSimpArgs false
set_option maxRecDepth 100000
namespace Go.Proofs.PxR2
open Go Go.Px Go.Proofs
noncomputable def marksFrom (n : Int) : Nat → Nat → List Spot
  | _, 0 => []
  | i, d + 1 => (markN n (i : Int), n) :: marksFrom n (i + 1) d
noncomputable def marksOf (n : Int) : List Spot := marksFrom n 0 4
theorem marksFrom_len (n : Int) : ∀ (d i : Nat), (marksFrom n i d).length = d
  | 0, i => rfl
  | d + 1, i => by simp [marksFrom, marksFrom_len n d (i + 1)]
theorem markN_lt (n i : Int) : markN n i < 18446744073709551616 := (spotN_eq _).2
theorem marksFrom_lt (n : Int) : ∀ (d i : Nat), ∀ x ∈ marksFrom n i d, x.1 < 18446744073709551616
  | 0, i, x, h => by cases h
  | d + 1, i, x, h => by
    simp only [marksFrom, List.mem_cons] at h
    rcases h with rfl | h
    · exact markN_lt _ _
    · exact marksFrom_lt n d (i + 1) x h
def VV (fr nodes idx len i n a8 : AV) : List AV := [fr, nodes, idx, len, nodes, i, .loc 1 0, n, a8, .loc 0 0, .nilFunc]
noncomputable def inner70 (call : CallTT) : CZ := (zSeq (zReg fun k => (zP (vInt E1 fLss .lss 3 false true (.v 5) (.k (.int .i64 4)))) k)
  (zSeq (zCond (.l 0) zSkip (zExit 2))
  (zSeq (zBlock 3 (zSeq (zReg fun k => (zV 8 (vMv (.v 5))) k)
  (reg70 call)))
  (zReg fun k => (zP (vInt E1 fAdd .add 3 false true (.v 5) (.k (.int .i64 1)))) ((zV 5 (vMv (.l 0))) k)))))
theorem inner_loop (k : Nat) (hk : 202 ≤ k) (Y : YE) (fr : Nat) (f0 nodes idx len : AV) (n : Int) (hn : I64 n) :
    ∀ (d i q : Nat) (H : Heap) (l : List Spot) (a8 : AV) (L0 : List AV), i + d = 4 → d < q → l.length + d < 100000 → RS fr H l →
    ∃ L' H' a8', (∀ kn kx kr, zLoop q (inner70 (CY (k + 1) Y)) kn kx kr L0 (VV f0 nodes idx len (iV i) (iV n) a8) (rep H) = kx 2 L' (VV f0 nodes idx len (iV 4) (iV n) a8') (rep H')) ∧ RS fr H' (l ++ marksFrom n i d)
  | 0, i, q, H, l, a8, L0, hi, hq, hl, W => by
    obtain ⟨q', rfl⟩ : ∃ q', q = q' + 1 := ⟨q - 1, by omega⟩
    have hi4 : i = 4 := by omega
    subst hi4
    refine ⟨[.bool false], H, a8, fun kn kx kr => ?_, by simpa [marksFrom] using W⟩
    rw [zLoop_succ]
    unfold inner70
    refine zSeq_reg.trans ?_
    refine (zP_v (vInt_eq fLss_ok rfl rfl rfl)).trans ?_
    refine zSeq_app.trans ?_
    refine (zCond_eq (p := false) rfl).trans ?_
    rw [if_neg (by decide)]
    exact zExit_app
  | d + 1, i, q, H, l, a8, L0, hi, hq, hl, W => by
    obtain ⟨q', rfl⟩ : ∃ q', q = q' + 1 := ⟨q - 1, by omega⟩
    have hlt : i < 4 := by omega
    obtain ⟨L1, H1, e1, W1⟩ := push_mark k hk Y fr H l n i hn (by unfold I64; omega) (by omega) W (VV f0 nodes idx len (iV i) (iV n) (iV i)) rfl rfl rfl []
    obtain ⟨L2, H2, a82, e2, W2⟩ := inner_loop k hk Y fr f0 nodes idx len n hn d (i + 1) q' H1 (l ++ [(markN n i, n)]) (iV i) [.int .i64 ((i + 1 : Nat) : Int)] (by omega) (by omega) (by simp; omega) W1
    refine ⟨L2, H2, a82, fun kn kx kr => ?_, by simpa [marksFrom] using W2⟩
    have hw : IntKind.i64.wrap ((i : Int) + 1) = ((i + 1 : Nat) : Int) := by rw [IntKind.wrap_i64]; omega
    rw [zLoop_succ]
    refine Eq.trans ?_ (e2 kn kx kr)
    conv => lhs; unfold inner70
    refine zSeq_reg.trans ?_
    refine (zP_v (vInt_eq fLss_ok rfl rfl rfl)).trans ?_
    refine zSeq_app.trans ?_
    refine (zCond_eq rfl).trans ?_
    rw [if_pos (by simp; omega)]
    refine zSkip_app.trans ?_
    refine zSeq_app.trans ?_
    refine zBlock_app.trans ?_
    refine zSeq_reg.trans ?_
    refine (zV_v vMv_eq).trans ?_
    refine (e1 _ _ _).trans ?_
    refine zReg_eq.trans ?_
    refine (zP_v (vInt_eq fAdd_ok rfl rfl rfl)).trans ?_
    rw [hw]
    refine (zV_v vMv_eq).trans ?_
    rfl
noncomputable def outer70 (call : CallTT) (fuel : Nat) : CZ := (zSeq (zReg fun k => (zP (vInt E1 fLss .lss 3 false false (.v 2) (.v 3))) k)
  (zSeq (zCond (.l 0) zSkip (zExit 0))
  (zSeq (zBlock 1 (zSeq (zReg fun k => (zP (vIndexAddr 1 (.v 4) (.v 2))) ((zL 1 false (.l 0)) ((zV 7 (vMv (.l 0))) k)))
  (zSeq (zReg fun k => (zV 5 (vMv (.k (.int .i64 0)))) k)
  (zBlock 2 (zLoop fuel (inner70 call))))))
  (zReg fun k => (zP (vInt E1 fAdd .add 3 false true (.v 2) (.k (.int .i64 1)))) ((zV 2 (vMv (.l 0))) k)))))
theorem outer_loop (k : Nat) (hk : 202 ≤ k) (Y : YE) (fr : Nat) (f0 : AV) (ns : List Int) (fl : Bool) (hns : ∀ n ∈ ns, I64 n) (hlen : ns.length < 1000) :
    ∀ (d j q : Nat) (H : Heap) (l : List Spot) (i0 n0 a8 : AV) (L0 : List AV), j + d = ns.length → d < q → l.length ≤ 4 * j → RS fr H l →
    ∃ L' H' i0' n0' a8', (∀ kn kx kr, zLoop q (outer70 (CY (k + 1) Y) (k + 1)) kn kx kr L0 (VV f0 (.sl ns.length (ns.map iV) fl) (iV j) (iV ns.length) i0 n0 a8) (rep H) = kx 0 L' (VV f0 (.sl ns.length (ns.map iV) fl) (iV ns.length) (iV ns.length) i0' n0' a8') (rep H')) ∧ RS fr H' (l ++ (ns.drop j).flatMap marksOf)
  | 0, j, q, H, l, i0, n0, a8, L0, hj, hq, hl, W => by
    obtain ⟨q', rfl⟩ : ∃ q', q = q' + 1 := ⟨q - 1, by omega⟩
    have hjl : j = ns.length := by omega
    subst hjl
    refine ⟨[.bool false], H, i0, n0, a8, fun kn kx kr => ?_, by simpa using W⟩
    rw [zLoop_succ]
    unfold outer70
    refine zSeq_reg.trans ?_
    refine (zP_v (vInt_eq fLss_ok rfl rfl (lss_nat 0 E1))).trans ?_
    rw [show decide (ns.length < ns.length) = false by simp]
    refine zSeq_app.trans ?_
    refine (zCond_eq (p := false) rfl).trans ?_
    rw [if_neg (by decide)]
    exact zExit_app
  | d + 1, j, q, H, l, i0, n0, a8, L0, hj, hq, hl, W => by
    obtain ⟨q', rfl⟩ : ∃ q', q = q' + 1 := ⟨q - 1, by omega⟩
    have hlt : j < ns.length := by omega
    obtain ⟨n, hs⟩ : ∃ n, ns[j]? = some n := ⟨ns[j], by simp [hlt]⟩
    have hn : I64 n := hns n (List.mem_of_getElem? hs)
    have hdr : ns.drop j = n :: ns.drop (j + 1) := by
      rw [List.drop_eq_getElem_cons hlt, (List.getElem?_eq_some_iff.1 hs).2]
    obtain ⟨L1, H1, a81, e1, W1⟩ := inner_loop k hk Y fr f0 (.sl ns.length (ns.map iV) fl) (iV j) (iV ns.length) n hn 4 0 (k + 1) H l a8 [] (by omega) (by omega) (by omega) W
    obtain ⟨L2, H2, i02, n02, a82, e2, W2⟩ := outer_loop k hk Y fr f0 ns fl hns hlen d (j + 1) q' H1 (l ++ marksOf n) (iV 4) (iV n) a81 [.int .i64 ((j + 1 : Nat) : Int)] (by omega) (by omega) (by simp [marksOf, marksFrom_len]; omega) W1
    refine ⟨L2, H2, i02, n02, a82, fun kn kx kr => ?_, by rw [hdr]; simpa using W2⟩
    have hw : IntKind.i64.wrap ((j : Int) + 1) = ((j + 1 : Nat) : Int) := by rw [IntKind.wrap_i64]; omega
    rw [zLoop_succ]
    refine Eq.trans ?_ (e2 kn kx kr)
    conv => lhs; unfold outer70
    refine zSeq_reg.trans ?_
    refine (zP_v (vInt_eq fLss_ok rfl rfl (lss_nat 0 E1))).trans ?_
    rw [show decide (j < ns.length) = true by simp [hlt]]
    refine zSeq_app.trans ?_
    refine (zCond_eq (p := true) rfl).trans ?_
    rw [if_pos rfl]
    refine zSkip_app.trans ?_
    refine zSeq_app.trans ?_
    refine zBlock_app.trans ?_
    refine zSeq_reg.trans ?_
    have hd2 : (ns.map iV).drop (j * 1) = iV n :: (ns.drop (j + 1)).map iV := by rw [Nat.mul_one, ← List.map_drop, hdr]; rfl
    refine (zP_v (vIndexAddr_sl rfl rfl hlt (by simpa using hlt))).trans ?_
    rw [hd2]
    refine (zL_v (wLoad_ref rfl (by simp) rfl)).trans ?_
    refine (zV_v vMv_eq).trans ?_
    refine zSeq_reg.trans ?_
    refine (zV_v vMv_eq).trans ?_
    refine zBlock_app.trans ?_
    refine (e1 _ _ _).trans ?_
    rw [ifZ_eq, if_pos (by rfl)]
    refine zReg_eq.trans ?_
    refine (zP_v (vInt_eq fAdd_ok rfl rfl rfl)).trans ?_
    rw [hw]
    refine (zV_v vMv_eq).trans ?_
    rfl
end Go.Proofs.PxR2
