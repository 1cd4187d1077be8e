/- Small functions over rows of ints: Has, SameInts. -/
import Derived.Test.YtpdgbkmpcahjjaaPzR2W7
set_option linter.unusedVariables false
set_option linter.unusedSimpArgs false
set_option maxRecDepth 100000
namespace Go.Proofs.PxR2
open Go Go.Px Go.Proofs
theorem drop_iV {l : List Int} {i : Nat} {n : Int} (h : l[i]? = some n) : (l.map iV).drop (i * 1) = iV n :: (l.drop (i + 1)).map iV := by
  have hlt := (List.getElem?_eq_some_iff.1 h).1
  rw [Nat.mul_one, ← List.map_drop, List.drop_eq_getElem_cons hlt, (List.getElem?_eq_some_iff.1 h).2]; rfl
theorem drop_at {α : Type} {l : List α} {i : Nat} {n : α} (h : l[i]? = some n) : l.drop i = n :: l.drop (i + 1) := by
  have hlt := (List.getElem?_eq_some_iff.1 h).1
  rw [List.drop_eq_getElem_cons hlt, (List.getElem?_eq_some_iff.1 h).2]
noncomputable def body37 : CZ := (zSeq (zSeq (zReg fun k => (zP (vLenL (.v 1))) ((zP (vInt E1 fLss .lss 3 false false (.v 0) (.l 0))) k))
  (zCond (.l 0) zSkip (zExit 0)))
  (zSeq (zBlock 1 (zSeq (zReg fun k => (zP (vIndexAddr 1 (.v 1) (.v 0))) ((zL 1 false (.l 0)) ((zP (vInt E1 fEql .eql 3 false false (.l 0) (.v 2))) k)))
  (zCond (.l 0) (zSeq (zReg fun k => (zV 3 (vMv (.k (.bool true)))) k)
  zRet) zSkip)))
  (zReg fun k => (zP (vMv (.v 0))) ((zP (vInt E1 fAdd .add 3 false true (.l 0) (.k (.int .i64 1)))) ((zV 0 (vMv (.l 0))) k)))))
theorem loop37 (l : List Int) (f : Bool) (n : Int) (T : TH) (hlen : l.length < 1000000) :
    ∀ (d i q : Nat) (L : List AV), i + d = l.length → d < q →
    (n ∈ l.drop i → ∃ L' i', ∀ kn kx kr, zLoop q body37 kn kx kr L [iV i, .sl l.length (l.map iV) f, iV n, .bool false] T = kr L' [i', .sl l.length (l.map iV) f, iV n, .bool true] T) ∧
    (n ∉ l.drop i → ∃ L' i', ∀ kn kx kr, zLoop q body37 kn kx kr L [iV i, .sl l.length (l.map iV) f, iV n, .bool false] T = kx 0 L' [i', .sl l.length (l.map iV) f, iV n, .bool false] T)
  | 0, i, q, L, hi, hq => by
    obtain ⟨q', rfl⟩ : ∃ q', q = q' + 1 := ⟨q - 1, by omega⟩
    have hil : i = l.length := by omega
    subst hil
    refine ⟨fun h => by simp at h, fun _ => ⟨[.bool false, .int .i64 l.length], iV l.length, fun kn kx kr => ?_⟩⟩
    rw [zLoop_succ]
    unfold body37
    refine zSeq_app.trans ?_
    refine zSeq_reg.trans ?_
    refine (zP_v (vLenL_sl rfl)).trans ?_
    refine (zP_v (vInt_eq fLss_ok rfl rfl (lss_nat 0 E1))).trans ?_
    rw [show decide (l.length < l.length) = false by simp]
    refine (zCond_eq (p := false) rfl).trans ?_
    rw [if_neg (by decide)]
    exact zExit_app
  | d + 1, i, q, L, hi, hq => by
    obtain ⟨q', rfl⟩ : ∃ q', q = q' + 1 := ⟨q - 1, by omega⟩
    have hlt : i < l.length := by omega
    obtain ⟨m, hs⟩ : ∃ m, l[i]? = some m := ⟨l[i], by simp [hlt]⟩
    have hw : IntKind.i64.wrap ((i : Int) + 1) = ((i + 1 : Nat) : Int) := by rw [IntKind.wrap_i64]; omega
    obtain ⟨ih1, ih2⟩ := loop37 l f n T hlen d (i + 1) q' [.int .i64 ((i + 1 : Nat) : Int), iV i] (by omega) (by omega)
    have front : ∀ kn kx kr, zLoop (q' + 1) body37 kn kx kr L [iV i, .sl l.length (l.map iV) f, iV n, .bool false] T = if (m == n) = true then kr [] [iV i, .sl l.length (l.map iV) f, iV n, .bool true] T else zLoop q' body37 kn kx kr [.int .i64 ((i + 1 : Nat) : Int), iV i] [iV (i + 1 : Nat), .sl l.length (l.map iV) f, iV n, .bool false] T := fun kn kx kr => by
      rw [zLoop_succ]
      conv => lhs; unfold body37
      refine zSeq_app.trans ?_
      refine zSeq_reg.trans ?_
      refine (zP_v (vLenL_sl rfl)).trans ?_
      refine (zP_v (vInt_eq fLss_ok rfl rfl (lss_nat 0 E1))).trans ?_
      rw [show decide (i < l.length) = true by simp [hlt]]
      refine (zCond_eq (p := true) rfl).trans ?_
      rw [if_pos rfl]
      refine zSkip_app.trans ?_
      refine zSeq_app.trans ?_
      refine zBlock_app.trans ?_
      refine zSeq_reg.trans ?_
      refine (zP_v (vIndexAddr_sl rfl rfl hlt (by simpa using hlt))).trans ?_
      rw [drop_iV hs]
      refine (zL_v (wLoad_ref rfl (by simp) rfl)).trans ?_
      refine (zP_v (vInt_eq fEql_ok rfl rfl rfl)).trans ?_
      refine (zCond_eq rfl).trans ?_
      by_cases hb : (m == n) = true
      · rw [if_pos hb, if_pos hb]
        refine zSeq_reg.trans ?_
        refine (zV_v vMv_eq).trans ?_
        exact zRet_app
      · rw [if_neg hb, if_neg hb]
        refine zSkip_app.trans ?_
        refine zReg_eq.trans ?_
        refine (zP_v vMv_eq).trans ?_
        refine (zP_v (vInt_eq fAdd_ok rfl rfl rfl)).trans ?_
        rw [hw]
        refine (zV_v vMv_eq).trans ?_
        rfl
    rw [drop_at hs]
    by_cases hb : (m == n) = true
    · have hmn : m = n := by simpa using hb
      refine ⟨fun _ => ⟨_, _, fun kn kx kr => by rw [front, if_pos hb]⟩, fun h => by simp [hmn] at h⟩
    · have hmn : ¬ n = m := fun e => hb (by simp [e])
      refine ⟨fun h => ?_, fun h => ?_⟩
      · obtain ⟨L', i', e⟩ := ih1 (by simpa [hmn] using h)
        exact ⟨L', i', fun kn kx kr => by rw [front, if_neg hb]; exact e kn kx kr⟩
      · obtain ⟨L', i', e⟩ := ih2 (fun h2 => h (List.mem_cons_of_mem _ h2))
        exact ⟨L', i', fun kn kx kr => by rw [front, if_neg hb]; exact e kn kx kr⟩
theorem has37 (cy : CallYT) (Y : YE) (k : Nat) (l : List Int) (f : Bool) (n : Int) (T : TH) (hk : l.length < k) (hlen : l.length < 1000000) :
    bodyZ E1 cy Y k (G37 E1) [.sl l.length (l.map iV) f, iV n] T = some (.bool (decide (n ∈ l)), T) := by
  have e0 : ∀ q, bodyZ E1 cy Y q (G37 E1) [.sl l.length (l.map iV) f, iV n] T = (G37 E1).z cy Y q (finZ E1 [.tmp (.v 3)]) (fun _ _ _ _ => none) (finZ E1 [.tmp (.v 3)]) [] [.undef, .sl l.length (l.map iV) f, iV n, .undef] T := by intro q; kernel_rfl
  obtain ⟨h1, h2⟩ := loop37 l f n T hlen l.length 0 k [] (by omega) hk
  refine (e0 _).trans ?_
  unfold G37
  dsimp only
  refine zSeq_reg.trans ?_
  refine (zV_v vMv_eq).trans ?_
  refine zSeq_app.trans ?_
  refine zSeq_reg.trans ?_
  refine (zV_v vMv_eq).trans ?_
  refine zBlock_app.trans ?_
  by_cases hn : n ∈ l
  · obtain ⟨L', i', e⟩ := h1 (by simpa using hn)
    refine (e _ _ _).trans ?_
    rw [show decide (n ∈ l) = true by simp [hn]]
    rfl
  · obtain ⟨L', i', e⟩ := h2 (by simpa using hn)
    refine (e _ _ _).trans ?_
    rw [show decide (n ∈ l) = false by simp [hn]]
    rfl
theorem flat_sl1 (n : Nat) (cs : List AV) (f : Bool) (v : Int) (g : Nat → Option AO) : fzL (fzG E1 g fzDeep) [.sl n cs f, iV v] = some ([.sl n cs f, iV v], []) := rfl
theorem c37 {k : Nat} (Y : YE) (T : TH) (l : List Int) (f : Bool) (n : Int) (hk : l.length < k) (hl : l.length < 1000000) : CY (k + 1) Y (.func 37) [.sl l.length (l.map iV) f, iV n] T = some (.bool (decide (n ∈ l)), T, ⟨[], [], false⟩) :=
  call_flat (zf := G37 E1) rfl rfl (flat_sl1 _ _ _ _) (has37 _ _ _ l f n _ hk hl) (fun _ => rfl) rfl
noncomputable def body19 : CZ := (zSeq (zSeq (zReg fun k => (zP (vLenL (.v 0))) ((zP (vInt E1 fLss .lss 3 false false (.v 2) (.l 0))) k))
  (zCond (.l 0) zSkip (zExit 0)))
  (zSeq (zBlock 1 (zSeq (zDreg 0 fun n0 k => (zPD (vIndexAddr 1 (.v 0) (.v 2))) ((zLD B4 3 1 false (.l 0)) ((zPD (vIndexAddr 1 (.v 1) (.v 2))) ((zLD B4 7 1 false (.l 0)) ((zPD (vInt E1 fNeq .neq 3 false false (.l 2) (.l 0))) k)))))
  (zCond (.l 0) (zSeq (zReg fun k => (zV 3 (vMv (.k (.bool false)))) k)
  zRet) zSkip)))
  (zReg fun k => (zP (vMv (.v 2))) ((zP (vInt E1 fAdd .add 3 false true (.l 0) (.k (.int .i64 1)))) ((zV 2 (vMv (.l 0))) k)))))
theorem zDreg0 {f : Nat → SPK → SPK} {kn : KB} {kx : Nat → KB} {kr : KB} {L V : List AV} {T : TH} : zDreg 0 f kn kx kr L V T = f T.n (fun _ => kn) [] [] V T := by
  simp only [zDreg, lenT_eq, deadsT_eq]; rfl
theorem loop19 (l m : List Int) (f g : Bool) (r0 : AV) (T : TH) (hlm : l.length = m.length) (hlen : l.length < 1000000) :
    ∀ (d i q : Nat) (L : List AV), i + d = l.length → d < q →
    (l.drop i = m.drop i → ∃ L' i', ∀ kn kx kr, zLoop q body19 kn kx kr L [.sl l.length (l.map iV) f, .sl m.length (m.map iV) g, iV i, r0] T = kx 0 L' [.sl l.length (l.map iV) f, .sl m.length (m.map iV) g, i', r0] T) ∧
    (l.drop i ≠ m.drop i → ∃ L' i', ∀ kn kx kr, zLoop q body19 kn kx kr L [.sl l.length (l.map iV) f, .sl m.length (m.map iV) g, iV i, r0] T = kr L' [.sl l.length (l.map iV) f, .sl m.length (m.map iV) g, i', .bool false] T)
  | 0, i, q, L, hi, hq => by
    obtain ⟨q', rfl⟩ : ∃ q', q = q' + 1 := ⟨q - 1, by omega⟩
    have hil : i = l.length := by omega
    subst hil
    refine ⟨fun _ => ⟨[.bool false, .int .i64 l.length], iV l.length, fun kn kx kr => ?_⟩, fun h => absurd (by rw [List.drop_length, hlm, List.drop_length]) h⟩
    rw [zLoop_succ]
    unfold body19
    refine zSeq_app.trans ?_
    refine zSeq_reg.trans ?_
    refine (zP_v (vLenL_sl rfl)).trans ?_
    refine (zP_v (vInt_eq fLss_ok rfl rfl (lss_nat 0 E1))).trans ?_
    rw [show decide (l.length < l.length) = false by simp]
    refine (zCond_eq (p := false) rfl).trans ?_
    rw [if_neg (by decide)]
    exact zExit_app
  | d + 1, i, q, L, hi, hq => by
    obtain ⟨q', rfl⟩ : ∃ q', q = q' + 1 := ⟨q - 1, by omega⟩
    have hlt : i < l.length := by omega
    have hlt2 : i < m.length := by omega
    obtain ⟨x, hs⟩ : ∃ m, l[i]? = some m := ⟨l[i], by simp [hlt]⟩
    obtain ⟨y, ht⟩ : ∃ y, m[i]? = some y := ⟨m[i], by simp [hlt2]⟩
    have hw : IntKind.i64.wrap ((i : Int) + 1) = ((i + 1 : Nat) : Int) := by rw [IntKind.wrap_i64]; omega
    obtain ⟨ih1, ih2⟩ := loop19 l m f g r0 T hlm hlen d (i + 1) q' [.int .i64 ((i + 1 : Nat) : Int), iV i] (by omega) (by omega)
    have front : ∃ L9, ∀ kn kx kr, zLoop (q' + 1) body19 kn kx kr L [.sl l.length (l.map iV) f, .sl m.length (m.map iV) g, iV i, r0] T = if (x != y) = true then kr L9 [.sl l.length (l.map iV) f, .sl m.length (m.map iV) g, iV i, .bool false] T else zLoop q' body19 kn kx kr [.int .i64 ((i + 1 : Nat) : Int), iV i] [.sl l.length (l.map iV) f, .sl m.length (m.map iV) g, iV (i + 1 : Nat), r0] T := by
      refine ⟨[], fun kn kx kr => ?_⟩
      rw [zLoop_succ]
      conv => lhs; unfold body19
      refine zSeq_app.trans ?_
      refine zSeq_reg.trans ?_
      refine (zP_v (vLenL_sl rfl)).trans ?_
      refine (zP_v (vInt_eq fLss_ok rfl rfl (lss_nat 0 E1))).trans ?_
      rw [show decide (i < l.length) = true by simp [hlt]]
      refine (zCond_eq (p := true) rfl).trans ?_
      rw [if_pos rfl]
      refine zSkip_app.trans ?_
      refine zSeq_app.trans ?_
      refine zBlock_app.trans ?_
      refine zSeq_app.trans ?_
      refine zDreg0.trans ?_
      refine (zPD_v (vIndexAddr_sl rfl rfl hlt (by simpa using hlt))).trans ?_
      rw [drop_iV hs]
      refine (zLD_idle (wLoad_ref rfl (by simp) rfl) rfl).trans ?_
      refine (zPD_v (vIndexAddr_sl rfl rfl hlt2 (by simpa using hlt2))).trans ?_
      rw [drop_iV ht]
      refine (zLD_idle (wLoad_ref rfl (by simp) rfl) rfl).trans ?_
      refine (zPD_v (vInt_eq fNeq_ok rfl rfl rfl)).trans ?_
      refine (zCond_eq rfl).trans ?_
      by_cases hb : (x != y) = true
      · rw [if_pos hb, if_pos hb]
        refine zSeq_reg.trans ?_
        refine (zV_v vMv_eq).trans ?_
        exact zRet_app
      · rw [if_neg hb, if_neg hb]
        refine zSkip_app.trans ?_
        refine zReg_eq.trans ?_
        refine (zP_v vMv_eq).trans ?_
        refine (zP_v (vInt_eq fAdd_ok rfl rfl rfl)).trans ?_
        rw [hw]
        refine (zV_v vMv_eq).trans ?_
        rfl
    obtain ⟨L9, front⟩ := front
    rw [drop_at hs, drop_at ht]
    by_cases hb : (x != y) = true
    · have hxy : x ≠ y := by simpa using hb
      exact ⟨fun h => absurd (List.cons.inj h).1 hxy, fun _ => ⟨_, _, fun kn kx kr => by rw [front, if_pos hb]⟩⟩
    · have hxy : x = y := by simpa using hb
      refine ⟨fun h => ?_, fun h => ?_⟩
      · obtain ⟨L', i', e⟩ := ih1 (List.cons.inj h).2
        exact ⟨L', i', fun kn kx kr => by rw [front, if_neg hb]; exact e kn kx kr⟩
      · obtain ⟨L', i', e⟩ := ih2 (fun h2 => h (by rw [hxy, h2]))
        exact ⟨L', i', fun kn kx kr => by rw [front, if_neg hb]; exact e kn kx kr⟩
theorem same19 (cy : CallYT) (Y : YE) (k : Nat) (l m : List Int) (f g : Bool) (T : TH) (hk : l.length < k) (hlen : l.length < 1000000) :
    bodyZ E1 cy Y k (G19 E1) [.sl l.length (l.map iV) f, .sl m.length (m.map iV) g] T = some (.bool (decide (l = m)), T) := by
  have e0 : ∀ q, bodyZ E1 cy Y q (G19 E1) [.sl l.length (l.map iV) f, .sl m.length (m.map iV) g] T = (G19 E1).z cy Y q (finZ E1 [.tmp (.v 3)]) (fun _ _ _ _ => none) (finZ E1 [.tmp (.v 3)]) [] [.sl l.length (l.map iV) f, .sl m.length (m.map iV) g, .undef, .undef] T := by intro q; kernel_rfl
  refine (e0 _).trans ?_
  unfold G19
  dsimp only
  refine zSeq_reg.trans ?_
  refine (zV_v vMv_eq).trans ?_
  refine zSeq_app.trans ?_
  refine zSeq_app.trans ?_
  refine zSeq_reg.trans ?_
  refine (zP_v (vLenL_sl rfl)).trans ?_
  refine (zP_v (vLenL_sl rfl)).trans ?_
  refine (zP_v (vInt_eq fNeq_ok rfl rfl rfl)).trans ?_
  refine (zCond_eq rfl).trans ?_
  by_cases hlm : l.length = m.length
  · rw [if_neg (by simp [hlm])]
    refine zSkip_app.trans ?_
    refine zSeq_app.trans ?_
    refine zSeq_app.trans ?_
    refine zReg_eq.trans ?_
    refine (zV_v vMv_eq).trans ?_
    refine zBlock_app.trans ?_
    obtain ⟨h1, h2⟩ := loop19 l m f g (.bool false) T hlm hlen l.length 0 k [] (by omega) hk
    by_cases hn : l = m
    · obtain ⟨L', i', e⟩ := h1 (by simpa using hn)
      refine (e _ _ _).trans ?_
      rw [show decide (l = m) = true by simp [hn]]
      rfl
    · obtain ⟨L', i', e⟩ := h2 (by simpa using hn)
      refine (e _ _ _).trans ?_
      rw [show decide (l = m) = false by simp [hn]]
      rfl
  · rw [if_pos (by simp; omega)]
    refine zSeq_reg.trans ?_
    refine (zV_v vMv_eq).trans ?_
    refine zRet_app.trans ?_
    rw [show decide (l = m) = false by simp; exact fun e => hlm (by rw [e])]
    rfl
theorem flat_sl2 (n : Nat) (cs : List AV) (f : Bool) (n2 : Nat) (cs2 : List AV) (f2 : Bool) (g : Nat → Option AO) : fzL (fzG E1 g fzDeep) [.sl n cs f, .sl n2 cs2 f2] = some ([.sl n cs f, .sl n2 cs2 f2], []) := rfl
theorem c19 {k : Nat} (Y : YE) (T : TH) (l m : List Int) (f g : Bool) (hk : l.length < k) (hl : l.length < 1000000) : CY (k + 1) Y (.func 19) [.sl l.length (l.map iV) f, .sl m.length (m.map iV) g] T = some (.bool (decide (l = m)), T, ⟨[], [], false⟩) :=
  call_flat (zf := G19 E1) rfl rfl (flat_sl2 _ _ _ _ _ _) (same19 _ _ _ l m f g _ hk hl) (fun _ => rfl) rfl
end Go.Proofs.PxR2
