/- The plain law of RingMoves; its third loop. -/
import Derived.Test.YtpdgbkmpcahjjaaPzR2S
set_option linter.unusedVariables false
set_option linter.unusedSimpArgs false
set_option maxRecDepth 100000
namespace Go.Proofs.PxR2
open Go Go.Px Go.Proofs

/-! ### plain -/
theorem sort_filter {fr : Nat} (hf : fr < 18446744073709551616) {l : List Spot} (hl : ∀ x ∈ l, x.1 < 18446744073709551616) (P : Spot → Bool) : (sortS fr l).filter P = sortS fr (l.filter P) := by
  refine List.Perm.eq_of_pairwise (fun a b ha hb h1 h2 => ?_) ((sortS_sorted fr l).sublist List.filter_sublist) (sortS_sorted fr _) (((sortS_perm fr l).filter P).trans (sortS_perm fr _).symm)
  have h3 : a ∈ l := (sortS_perm fr l).mem_iff.1 ((List.mem_filter.1 ha).1)
  have h4 : b ∈ l := (List.mem_filter.1 ((sortS_perm fr _).mem_iff.1 hb)).1
  exact leS_anti hf (hl a h3) (hl b h4) h1 h2
theorem met_filter (P : Int → Bool) (out : List Int) (n : Int) : (metS out n).filter P = if P n then metS (out.filter P) n else out.filter P := by
  unfold metS
  by_cases h : n ∈ out
  · rw [if_pos h]
    by_cases hp : P n = true
    · rw [if_pos hp, if_pos (List.mem_filter.2 ⟨h, hp⟩)]
    · rw [if_neg hp]
  · rw [if_neg h, List.filter_append]
    by_cases hp : P n = true
    · rw [if_pos hp, if_neg (fun h2 => h (List.mem_filter.1 h2).1)]
      simp [hp]
    · rw [if_neg hp]
      simp [hp]
theorem fold_filter (P : Int → Bool) : ∀ (l : List Spot) (out : List Int), (l.foldl (fun o s => metS o s.2) out).filter P = (l.filter fun s => P s.2).foldl (fun o s => metS o s.2) (out.filter P)
  | [], out => rfl
  | s :: l, out => by
    rw [List.foldl_cons, fold_filter P l, met_filter, List.filter_cons]
    by_cases hp : P s.2 = true
    · rw [if_pos hp, if_pos hp, List.foldl_cons]
    · rw [if_neg hp, if_neg hp]
theorem marks_snd (n : Int) : ∀ s ∈ marksOf n, s.2 = n := fun s hs => (marks_mem n s.2).1 ⟨s, hs, rfl⟩
theorem marks_filter (P : Int → Bool) : ∀ (ns : List Int), (ns.flatMap marksOf).filter (fun s => P s.2) = (ns.filter P).flatMap marksOf
  | [] => rfl
  | n :: ns => by
    rw [List.flatMap_cons, List.filter_append, marks_filter P ns, List.filter_cons]
    by_cases hp : P n = true
    · rw [if_pos hp, List.flatMap_cons]
      congr 1
      refine List.filter_eq_self.2 fun s hs => by rw [marks_snd n s hs]; exact hp
    · rw [if_neg hp]
      have : (marksOf n).filter (fun s => P s.2) = [] := List.filter_eq_nil_iff.2 fun s hs => by rw [marks_snd n s hs]; exact hp
      rw [this, List.nil_append]
theorem walk_filter (key : List Nat) (P : Int → Bool) (ns : List Int) : (walkK key ns).filter P = walkK key (ns.filter P) := by
  unfold walkK walkS ringS
  rw [fold_filter P, sort_filter (fr := placeN key) (spotN_eq _).2 (marks_lt ns) (fun s => P s.2), marks_filter]; rfl

theorem moved_le {x y : List Int} {k : Int} (hy : y.Nodup) (h : y.filter (· != k) = x) : ((keepN 2 y).filter (fun n => !decide (n ∈ keepN 2 x))).length ≤ 1 := by
  have hk : ∀ w : List Int, keepN 2 w = w.take 2 := fun w => by
    unfold keepN
    by_cases hw : w.length ≤ 2
    · rw [List.take_of_length_le hw, List.take_of_length_le (by omega)]
    · congr 1; omega
  rw [hk, hk]
  subst h
  match y, hy with
  | [], _ => simp
  | [a], _ => exact Nat.le_trans (List.length_filter_le _ _) (by simp)
  | a :: b :: t, hy =>
    have hab : a ≠ b := by
      rw [List.nodup_cons] at hy
      intro e; subst e; exact hy.1 (by simp)
    by_cases ha : a = k
    · subst ha
      have hb : (b != a) = true := by simpa using fun e : b = a => hab e.symm
      have : b ∈ ((a :: b :: t).filter (· != a)).take 2 := by
        simp [List.filter_cons, hb]
      obtain ⟨X, hX⟩ : ∃ X, X = ((a :: b :: t).filter (· != a)).take 2 := ⟨_, rfl⟩
      rw [← hX] at this ⊢
      simp only [List.take_succ_cons, List.take_zero, List.filter_cons, List.filter_nil, this, decide_true, Bool.not_true]
      split <;> simp
    · have ha' : (a != k) = true := by simpa using ha
      have : a ∈ ((a :: b :: t).filter (· != k)).take 2 := by
        simp [List.filter_cons, ha']
      obtain ⟨X, hX⟩ : ∃ X, X = ((a :: b :: t).filter (· != k)).take 2 := ⟨_, rfl⟩
      rw [← hX] at this ⊢
      simp only [List.take_succ_cons, List.take_zero, List.filter_cons, List.filter_nil, this, decide_true, Bool.not_true]
      simp
      split <;> simp

/-! ### how many moved -/
noncomputable def bodyE (call : CallTT) : CZ := (zSeq (zSeq (zReg fun k => (zP (vLenL (.v 12))) ((zP (vInt E1 fLss .lss 3 false false (.v 11) (.l 0))) k))
  (zCond (.l 0) zSkip (zExit 4)))
  (zSeq (zBlock 5 (zSeq (zReg fun k => (zP (vIndexAddr 1 (.v 12) (.v 11))) ((zL 1 false (.l 0)) ((zCall call 37 [(.v 13), (.l 0)] .push) ((zP (vNot (.l 0))) k))))
  (zCond (.l 0) (zReg fun k => (zP (vMv (.v 14))) ((zP (vInt E1 fAdd .add 3 false true (.l 0) (.k (.int .i64 1)))) ((zV 14 (vMv (.l 0))) k))) zSkip)))
  (zReg fun k => (zP (vMv (.v 11))) ((zP (vInt E1 fAdd .add 3 false true (.l 0) (.k (.int .i64 1)))) ((zV 11 (vMv (.l 0))) k)))))

theorem loopE (k : Nat) (Y : YE) (M : MV) (a bb i2 y z x : AV) (p qs : List Int) (fp fq : Bool) (hp : p.length < k) (hp2 : p.length < 1000) (hqs : qs.length < 100) (T : TH) :
    ∀ (d i q m : Nat) (L : List AV), i + d = qs.length → d < q → m ≤ i →
    ∃ L', ∀ kn kx kr, zLoop q (bodyE (CY (k + 1) Y)) kn kx kr L (VM M (iV 8) a bb i2 y z (iV i) (.sl qs.length (qs.map iV) fq) (.sl p.length (p.map iV) fp) (iV m) x) T = kx 4 L' (VM M (iV 8) a bb i2 y z (iV qs.length) (.sl qs.length (qs.map iV) fq) (.sl p.length (p.map iV) fp) (iV (m + ((qs.drop i).filter (fun n => !decide (n ∈ p))).length : Nat)) x) T
  | 0, i, q, m, L, hi, hq, hm => by
    obtain ⟨q', rfl⟩ : ∃ q', q = q' + 1 := ⟨q - 1, by omega⟩
    have hil : i = qs.length := by omega
    subst hil
    refine ⟨[.bool false, .int .i64 qs.length], fun kn kx kr => ?_⟩
    rw [zLoop_succ]
    conv => lhs; unfold bodyE
    refine zSeq_app.trans ?_
    refine zSeq_reg.trans ?_
    refine (zP_v (vLenL_sl rfl)).trans ?_
    refine (zP_v (vInt_eq fLss_ok rfl rfl (lss_nat 0 E1))).trans ?_
    rw [show decide (qs.length < qs.length) = false by simp]
    refine (zCond_eq (p := false) rfl).trans ?_
    rw [if_neg (by decide)]
    refine zExit_app.trans ?_
    simp
  | d + 1, i, q, m, L, hi, hq, hm => by
    obtain ⟨q', rfl⟩ : ∃ q', q = q' + 1 := ⟨q - 1, by omega⟩
    have hlt : i < qs.length := by omega
    obtain ⟨n, hs⟩ : ∃ n, qs[i]? = some n := ⟨qs[i], by simp [hlt]⟩
    have hw : IntKind.i64.wrap ((i : Int) + 1) = ((i + 1 : Nat) : Int) := by rw [IntKind.wrap_i64]; omega
    have hwm : IntKind.i64.wrap ((m : Int) + 1) = ((m + 1 : Nat) : Int) := by rw [IntKind.wrap_i64]; omega
    have hc := c37 (k := k) Y T p fp n hp (by omega)
    have front : ∀ kn kx kr, zLoop (q' + 1) (bodyE (CY (k + 1) Y)) kn kx kr L (VM M (iV 8) a bb i2 y z (iV i) (.sl qs.length (qs.map iV) fq) (.sl p.length (p.map iV) fp) (iV m) x) T = (zCond (.l 0) (zReg fun k => (zP (vMv (.v 14))) ((zP (vInt E1 fAdd .add 3 false true (.l 0) (.k (.int .i64 1)))) ((zV 14 (vMv (.l 0))) k))) zSkip) ((zReg fun k => (zP (vMv (.v 11))) ((zP (vInt E1 fAdd .add 3 false true (.l 0) (.k (.int .i64 1)))) ((zV 11 (vMv (.l 0))) k))) (zLoop q' (bodyE (CY (k + 1) Y)) kn kx kr) kx kr) (fun j L V H => ifZ (Nat.beq j 5) ((zReg fun k => (zP (vMv (.v 11))) ((zP (vInt E1 fAdd .add 3 false true (.l 0) (.k (.int .i64 1)))) ((zV 11 (vMv (.l 0))) k))) (zLoop q' (bodyE (CY (k + 1) Y)) kn kx kr) kx kr L V H) (kx j L V H)) kr [.bool (!decide (n ∈ p)), .bool (decide (n ∈ p)), iV n, .ref (iV n :: (qs.drop (i + 1)).map iV)] (VM M (iV 8) a bb i2 y z (iV i) (.sl qs.length (qs.map iV) fq) (.sl p.length (p.map iV) fp) (iV m) x) T := fun kn kx kr => by
      rw [zLoop_succ]
      conv => lhs; unfold bodyE
      refine zSeq_app.trans ?_
      refine zSeq_reg.trans ?_
      refine (zP_v (vLenL_sl rfl)).trans ?_
      refine (zP_v (vInt_eq fLss_ok rfl rfl (lss_nat 0 E1))).trans ?_
      rw [show decide (i < qs.length) = true by simp [hlt]]
      refine (zCond_eq (p := true) rfl).trans ?_
      rw [if_pos rfl]
      refine zSkip_app.trans ?_
      refine zSeq_app.trans ?_
      refine zBlock_app.trans ?_
      refine zSeq_reg.trans ?_
      refine (zP_v (vIndexAddr_sl rfl rfl hlt (by simpa using hlt))).trans ?_
      rw [drop_iV hs]
      refine (zL_v (wLoad_ref rfl (by simp) rfl)).trans ?_
      refine (zCall_eq hc).trans ?_
      exact zP_v (vNot_eq rfl)
    rw [drop_at hs, List.filter_cons]
    cases hb : (!decide (n ∈ p)) with
    | false =>
      rw [hb] at front
      obtain ⟨L2, e2⟩ := loopE k Y M a bb i2 y z x p qs fp fq hp hp2 hqs T d (i + 1) q' m [.int .i64 ((i + 1 : Nat) : Int), iV i] (by omega) (by omega) (by omega)
      refine ⟨L2, fun kn kx kr => ?_⟩
      refine (front kn kx kr).trans ?_
      refine (zCond_eq (p := false) rfl).trans ?_
      rw [if_neg (by decide)]
      refine zSkip_app.trans ?_
      refine zReg_eq.trans ?_
      refine (zP_v vMv_eq).trans ?_
      refine (zP_v (vInt_eq fAdd_ok rfl rfl rfl)).trans ?_
      rw [hw]
      refine (zV_v vMv_eq).trans ?_
      exact e2 kn kx kr
    | true =>
      rw [hb] at front
      obtain ⟨L2, e2⟩ := loopE k Y M a bb i2 y z x p qs fp fq hp hp2 hqs T d (i + 1) q' (m + 1) [.int .i64 ((i + 1 : Nat) : Int), iV i] (by omega) (by omega) (by omega)
      refine ⟨L2, fun kn kx kr => ?_⟩
      refine (front kn kx kr).trans ?_
      refine (zCond_eq (p := true) rfl).trans ?_
      rw [if_pos rfl]
      refine zReg_eq.trans ?_
      refine (zP_v vMv_eq).trans ?_
      refine (zP_v (vInt_eq fAdd_ok rfl rfl rfl)).trans ?_
      rw [hwm]
      refine (zV_v vMv_eq).trans ?_
      refine zReg_eq.trans ?_
      refine (zP_v vMv_eq).trans ?_
      refine (zP_v (vInt_eq fAdd_ok rfl rfl rfl)).trans ?_
      show zV 11 (vMv (.l 0)) _ (.int .i64 (IntKind.i64.wrap ((i : Int) + 1)) :: _) _ _ = _
      rw [hw]
      refine (zV_v vMv_eq).trans ?_
      refine (e2 kn kx kr).trans ?_
      rw [if_pos rfl, List.length_cons, show m + 1 + ((qs.drop (i + 1)).filter (fun n => !decide (n ∈ p))).length = m + (((qs.drop (i + 1)).filter (fun n => !decide (n ∈ p))).length + 1) by omega]
end Go.Proofs.PxR2
