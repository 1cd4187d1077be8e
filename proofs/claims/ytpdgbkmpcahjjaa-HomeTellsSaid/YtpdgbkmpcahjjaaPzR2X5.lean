/- The reference's way round the ring: its loops. -/
import Derived.Test.YtpdgbkmpcahjjaaPzR2X4
set_option linter.unusedVariables false
set_option linter.unusedSimpArgs false
set_option maxRecDepth 100000
namespace Go.Proofs.PxR2
open Go Go.Px Go.Proofs
def farS (fr : Nat) (s : Spot) : Spot := (farN fr s.1, s.2)
theorem farN_lt (f a : Nat) : farN f a < 18446744073709551616 := Nat.mod_lt _ (by decide)
theorem leS_far (fr : Nat) (x y : Spot) : leS 0 (farS fr x) (farS fr y) = leS fr x y := by
  unfold leS farS
  simp only [far0 (farN_lt fr x.1), far0 (farN_lt fr y.1)]
theorem ins_far (fr : Nat) (s : Spot) : ∀ l, insS 0 (farS fr s) (l.map (farS fr)) = (insS fr s l).map (farS fr)
  | [] => rfl
  | x :: l => by
    simp only [List.map_cons, insS, leS_far]
    split
    · rw [List.map_cons, ins_far fr s l]
    · rfl
def refFold (fr : Nat) (l acc : List Spot) : List Spot := l.foldl (fun acc s => insS 0 (farS fr s) acc) acc
theorem ref_far (fr : Nat) : ∀ (l acc : List Spot), refFold fr l (acc.map (farS fr)) = (l.foldl (fun acc s => insS fr s acc) acc).map (farS fr)
  | [], acc => rfl
  | s :: l, acc => by
    show refFold fr l (insS 0 (farS fr s) (acc.map (farS fr))) = _
    rw [ins_far, ref_far fr l]; rfl
theorem ref_sort (fr : Nat) (l : List Spot) : refFold fr l [] = (sortS fr l).map (farS fr) := ref_far fr l []
theorem walk_far (fr : Nat) (l : List Spot) : walkS (l.map (farS fr)) = walkS l := by
  unfold walkS
  rw [List.foldl_map]; rfl
theorem refFold_len (fr : Nat) : ∀ (l acc : List Spot), (refFold fr l acc).length = acc.length + l.length
  | [], acc => rfl
  | s :: l, acc => by
    show (refFold fr l (insS 0 (farS fr s) acc)).length = _
    rw [refFold_len fr l, (insS_perm 0 (farS fr s) acc).length_eq]
    simp; omega
theorem ins_lt {f : Nat} {s : Spot} {l : List Spot} (hs : s.1 < 18446744073709551616) (hl : ∀ x ∈ l, x.1 < 18446744073709551616) : ∀ x ∈ insS f s l, x.1 < 18446744073709551616 := fun x hx => by
  rcases List.mem_cons.1 ((insS_perm f s l).mem_iff.1 hx) with rfl | h
  · exact hs
  · exact hl x h
noncomputable def bodyM (call : CallTT) (fuel : Nat) : CZ := (zSeq (zSeq (zReg fun k => (zP (vInt E1 fLss .lss 3 false true (.v 3) (.k (.int .i64 4)))) k)
  (zCond (.l 0) zSkip (zExit 2)))
  (zSeq (zBlock 3 (zSeq (regA call)
  (zSeq (zReg fun k => (zV 5 (vMv (.k (.int .i64 0)))) k)
  (zSeq (zBlock 4 (zLoop fuel bodyJ))
  (regB call)))))
  (zReg fun k => (zP (vMv (.v 3))) ((zP (vInt E1 fAdd .add 3 false true (.l 0) (.k (.int .i64 1)))) ((zV 3 (vMv (.l 0))) k)))))
theorem loopM (k : Nat) (hk : 202 ≤ k) (Y : YE) (key : List Nat) (ns : List Int) (fl : Bool) (i fr : Nat) (n : Int) (hfr : fr < 18446744073709551616) (hi : ns[i]? = some n) (hn : I64 n) (i2 out : AV) :
    ∀ (d m q : Nat) (H : Heap) (v6 s0 j0 : AV) (l : List Spot) (L : List AV), m + d = 4 → d < q → OwnF 85 H v6 l → (∀ x ∈ l, x.1 < 18446744073709551616) → l.length + d < 200 →
    ∃ L' H' v6' s0' j0', (∀ kn kx kr, zLoop q (bodyM (CY (k + 1) Y) (k + 1)) kn kx kr L (VR key (iV i) (.sl ns.length (ns.map iV) fl) (iV m) (.int .u64 (fr : Int)) j0 v6 s0 i2 out) (rep H) = kx 2 L' (VR key (iV i) (.sl ns.length (ns.map iV) fl) (iV 4) (.int .u64 (fr : Int)) j0' v6' s0' i2 out) (rep H')) ∧
      OwnF 85 H' v6' (refFold fr (marksFrom n m d) l) ∧ (∀ x ∈ refFold fr (marksFrom n m d) l, x.1 < 18446744073709551616)
  | 0, m, q, H, v6, s0, j0, l, L, hm, hq, ho, hb, hl => by
    obtain ⟨q', rfl⟩ : ∃ q', q = q' + 1 := ⟨q - 1, by omega⟩
    have hm4 : m = 4 := by omega
    subst hm4
    refine ⟨[.bool false], H, v6, s0, j0, fun kn kx kr => ?_, ho, hb⟩
    rw [zLoop_succ]
    unfold bodyM
    refine zSeq_app.trans ?_
    refine zSeq_reg.trans ?_
    refine (zP_v (vInt_eq fLss_ok rfl rfl rfl)).trans ?_
    refine (zCond_eq (p := false) rfl).trans ?_
    rw [if_neg (by decide)]
    exact zExit_app
  | d + 1, m, q, H, v6, s0, j0, l, L, hm, hq, ho, hb, hl => by
    obtain ⟨q', rfl⟩ : ∃ q', q = q' + 1 := ⟨q - 1, by omega⟩
    have hlt : m < 4 := by omega
    have hw : IntKind.i64.wrap ((m : Int) + 1) = ((m + 1 : Nat) : Int) := by rw [IntKind.wrap_i64]; omega
    obtain ⟨La, Ha, ea, hsa, old⟩ := makeSpot k hk Y key ns fl i m fr n hfr j0 v6 s0 i2 out H hi hn (by omega) []
    have hoa := ho.fr old
    have hs64 : (farS fr (markN n m, n)).1 < 18446744073709551616 := farN_lt _ _
    obtain ⟨Lj, j', ej, hj', hins⟩ := loopJ key (iV i) (.sl ns.length (ns.map iV) fl) (iV m) (.int .u64 (fr : Int)) i2 out v6 Ha (H.length + 1) (farS fr (markN n m, n)) l hoa hsa hb hs64 (by omega) l.length 0 (k + 1) [] (by omega) (by omega) (fun i x hi => by omega)
    obtain ⟨Lb, Hb, v6b, eb, hob, _⟩ := laySpot (CY (k + 1) Y) key (iV i) (.sl ns.length (ns.map iV) fl) (iV m) (.int .u64 (fr : Int)) i2 out v6 Ha (H.length + 1) (farS fr (markN n m, n)) l j' hoa hsa hj' (by omega) Lj
    rw [← hins] at hob
    have hb2 := ins_lt (f := 0) hs64 hb
    obtain ⟨L2, H2, v62, s02, j02, e2, h2⟩ := loopM k hk Y key ns fl i fr n hfr hi hn i2 out d (m + 1) q' Hb v6b (.loc (H.length + 1) 0) (iV (j' : Nat)) (insS 0 (farS fr (markN n m, n)) l) [.int .i64 ((m + 1 : Nat) : Int), iV m] (by omega) (by omega) hob hb2 (by rw [(insS_perm _ _ _).length_eq]; simp; omega)
    refine ⟨L2, H2, v62, s02, j02, fun kn kx kr => ?_, h2⟩
    rw [zLoop_succ]
    refine Eq.trans ?_ (e2 kn kx kr)
    conv => lhs; unfold bodyM
    refine zSeq_app.trans ?_
    refine zSeq_reg.trans ?_
    refine (zP_v (vInt_eq fLss_ok rfl rfl rfl)).trans ?_
    refine (zCond_eq rfl).trans ?_
    rw [if_pos (by simp; omega)]
    refine zSkip_app.trans ?_
    refine zSeq_app.trans ?_
    refine zBlock_app.trans ?_
    refine zSeq_app.trans ?_
    refine (ea _ (fun _ _ _ _ => none) (fun _ _ _ => none)).trans ?_
    refine zSeq_reg.trans ?_
    refine (zV_v vMv_eq).trans ?_
    refine zSeq_app.trans ?_
    refine zBlock_app.trans ?_
    refine (ej _ _ _).trans ?_
    rw [ifZ_eq, if_pos (by rfl)]
    refine (eb _ (fun _ _ _ _ => none) (fun _ _ _ => none)).trans ?_
    refine zReg_eq.trans ?_
    refine (zP_v vMv_eq).trans ?_
    refine (zP_v (vInt_eq fAdd_ok rfl rfl rfl)).trans ?_
    show zV 3 (vMv (.l 0)) _ (.int .i64 (IntKind.i64.wrap ((m : Int) + 1)) :: _) _ _ = _
    rw [hw]
    exact zV_v vMv_eq
noncomputable def bodyN (call : CallTT) (fuel : Nat) : CZ := (zSeq (zSeq (zReg fun k => (zP (vLenL (.v 2))) ((zP (vInt E1 fLss .lss 3 false false (.v 1) (.l 0))) k))
  (zCond (.l 0) zSkip (zExit 0)))
  (zSeq (zBlock 1 (zSeq (zReg fun k => (zV 3 (vMv (.k (.int .i64 0)))) k)
  (zBlock 2 (zLoop fuel (bodyM call fuel)))))
  (zReg fun k => (zP (vMv (.v 1))) ((zP (vInt E1 fAdd .add 3 false true (.l 0) (.k (.int .i64 1)))) ((zV 1 (vMv (.l 0))) k)))))
theorem refFold_app (fr : Nat) (a b acc : List Spot) : refFold fr (a ++ b) acc = refFold fr b (refFold fr a acc) := by unfold refFold; rw [List.foldl_append]
theorem loopN34 (k : Nat) (hk : 202 ≤ k) (Y : YE) (key : List Nat) (ns : List Int) (fl : Bool) (fr : Nat) (hfr : fr < 18446744073709551616) (hns : ∀ n ∈ ns, I64 n) (hlen : ns.length < 40) (i2 out : AV) :
    ∀ (d i q : Nat) (H : Heap) (v6 s0 j0 m0 : AV) (l : List Spot) (L : List AV), i + d = ns.length → d < q → OwnF 85 H v6 l → (∀ x ∈ l, x.1 < 18446744073709551616) → l.length ≤ 4 * i →
    ∃ L' H' v6' s0' j0' m0', (∀ kn kx kr, zLoop q (bodyN (CY (k + 1) Y) (k + 1)) kn kx kr L (VR key (iV i) (.sl ns.length (ns.map iV) fl) m0 (.int .u64 (fr : Int)) j0 v6 s0 i2 out) (rep H) = kx 0 L' (VR key (iV ns.length) (.sl ns.length (ns.map iV) fl) m0' (.int .u64 (fr : Int)) j0' v6' s0' i2 out) (rep H')) ∧
      OwnF 85 H' v6' (refFold fr ((ns.drop i).flatMap marksOf) l)
  | 0, i, q, H, v6, s0, j0, m0, l, L, hi, hq, ho, hb, hl => by
    obtain ⟨q', rfl⟩ : ∃ q', q = q' + 1 := ⟨q - 1, by omega⟩
    have hil : i = ns.length := by omega
    subst hil
    refine ⟨[.bool false, .int .i64 ns.length], H, v6, s0, j0, m0, fun kn kx kr => ?_, by simpa [refFold] using ho⟩
    rw [zLoop_succ]
    unfold bodyN
    refine zSeq_app.trans ?_
    refine zSeq_reg.trans ?_
    refine (zP_v (vLenL_sl rfl)).trans ?_
    refine (zP_v (vInt_eq fLss_ok rfl rfl (lss_nat 0 E1))).trans ?_
    rw [show decide (ns.length < ns.length) = false by simp]
    refine (zCond_eq (p := false) rfl).trans ?_
    rw [if_neg (by decide)]
    exact zExit_app
  | d + 1, i, q, H, v6, s0, j0, m0, l, L, hi, hq, ho, hb, hl => by
    obtain ⟨q', rfl⟩ : ∃ q', q = q' + 1 := ⟨q - 1, by omega⟩
    have hlt : i < ns.length := by omega
    obtain ⟨n, hs⟩ : ∃ n, ns[i]? = some n := ⟨ns[i], by simp [hlt]⟩
    have hn : I64 n := hns n (List.mem_of_getElem? hs)
    have hw : IntKind.i64.wrap ((i : Int) + 1) = ((i + 1 : Nat) : Int) := by rw [IntKind.wrap_i64]; omega
    obtain ⟨L1, H1, v61, s01, j01, e1, ho1, hb1⟩ := loopM k hk Y key ns fl i fr n hfr hs hn i2 out 4 0 (k + 1) H v6 s0 j0 l [] (by omega) (by omega) ho hb (by omega)
    obtain ⟨L2, H2, v62, s02, j02, m02, e2, h2⟩ := loopN34 k hk Y key ns fl fr hfr hns hlen i2 out d (i + 1) q' H1 v61 s01 j01 (iV 4) (refFold fr (marksOf n) l) [.int .i64 ((i + 1 : Nat) : Int), iV i] (by omega) (by omega) ho1 hb1 (by rw [refFold_len]; simp [marksOf, marksFrom_len]; omega)
    refine ⟨L2, H2, v62, s02, j02, m02, fun kn kx kr => ?_, by rw [drop_at hs, List.flatMap_cons, refFold_app]; exact h2⟩
    rw [zLoop_succ]
    refine Eq.trans ?_ (e2 kn kx kr)
    conv => lhs; unfold bodyN
    refine zSeq_app.trans ?_
    refine zSeq_reg.trans ?_
    refine (zP_v (vLenL_sl rfl)).trans ?_
    refine (zP_v (vInt_eq fLss_ok rfl rfl (lss_nat 0 E1))).trans ?_
    rw [show decide (i < ns.length) = true by simp [hlt]]
    refine (zCond_eq (p := true) rfl).trans ?_
    rw [if_pos rfl]
    refine zSkip_app.trans ?_
    refine zSeq_app.trans ?_
    refine zBlock_app.trans ?_
    refine zSeq_reg.trans ?_
    refine (zV_v vMv_eq).trans ?_
    refine zBlock_app.trans ?_
    refine (e1 _ _ _).trans ?_
    rw [ifZ_eq, if_pos (by rfl)]
    refine zReg_eq.trans ?_
    refine (zP_v vMv_eq).trans ?_
    refine (zP_v (vInt_eq fAdd_ok rfl rfl rfl)).trans ?_
    rw [hw]
    exact zV_v vMv_eq
end Go.Proofs.PxR2
