/- The reference's way round the ring: a mark is laid where it belongs. -/
import Derived.Test.YtpdgbkmpcahjjaaPzR2X1
set_option linter.unusedVariables false
set_option linter.unusedSimpArgs false
set_option maxRecDepth 100000
namespace Go.Proofs.PxR2
open Go Go.Px Go.Proofs
theorem far0 {a : Nat} (h : a < 18446744073709551616) : farN 0 a = a := by unfold farN; omega
theorem leS0 {x y : Spot} (hx : x.1 < 18446744073709551616) (hy : y.1 < 18446744073709551616) : leS 0 x y = if x.1 < y.1 then true else if x.1 = y.1 then decide (x.2 ≤ y.2) else false := by
  unfold leS
  rw [far0 hx, far0 hy]
  simp only [Nat.blt_eq, Nat.beq_eq]
theorem ins_at (f : Nat) (s : Spot) : ∀ (l : List Spot) (j : Nat), j ≤ l.length → (∀ i x, i < j → l[i]? = some x → leS f x s = true) → (∀ x, l[j]? = some x → leS f x s = false) → insS f s l = l.take j ++ s :: l.drop j
  | [], j, hj, h1, h2 => by
    simp at hj; subst hj; rfl
  | x :: l, 0, hj, h1, h2 => by
    have := h2 x rfl
    unfold insS
    rw [if_neg (by rw [this]; decide)]; rfl
  | x :: l, j + 1, hj, h1, h2 => by
    have hx := h1 0 x (by omega) rfl
    unfold insS
    rw [if_pos hx, ins_at f s l j (by simpa using hj) (fun i y hi hy => h1 (i + 1) y (by omega) (by simpa using hy)) (fun y hy => h2 y (by simpa using hy))]
    rfl
theorem OwnF.len {e : Nat} {H : Heap} {v : AV} {l : List Spot} (h : OwnF e H v l) {L V : List AV} {T : TH} {a : O} (ha : gO L V a = v) (c : AV → Ans) : vLenL a L V T c = c (.int .i64 l.length) := by
  rcases h with ⟨rfl, rfl⟩ | ⟨hne, nm', rfl, hr⟩
  · exact vLenL_sl ha c
  · exact vLenL_own ha c
theorem OwnF.fr {e : Nat} {H H' : Heap} {v : AV} {l : List Spot} (h : OwnF e H v l) (hf : ∀ (i : Nat) (o : AO), H[i]? = some o → H'[i]? = some o) : OwnF e H' v l := by
  rcases h with h | ⟨hne, nm, e1, hr⟩
  · exact .inl h
  · exact .inr ⟨hne, nm, e1, hf nm _ hr⟩
noncomputable def bodyJ : CZ := (zSeq (zSeq cond34 (zCond (.l 0) zSkip (zExit 4)))
  (zBlock 5 (zReg fun k => (zP (vMv (.v 5))) ((zP (vInt E1 fAdd .add 3 false true (.l 0) (.k (.int .i64 1)))) ((zV 5 (vMv (.l 0))) k)))))
theorem loopJ (key : List Nat) (i nodes k atv i2 out v6 : AV) (H : Heap) (sn : Nat) (s : Spot) (l : List Spot) (ho : OwnF 85 H v6 l) (hs : H[sn]? = some (.row 85 [.int .u64 (s.1 : Int), iV s.2] false)) (hl64 : ∀ x ∈ l, x.1 < 18446744073709551616) (hs64 : s.1 < 18446744073709551616) (hll : l.length < 100000) :
    ∀ (d j q : Nat) (L : List AV), j + d = l.length → d < q → (∀ i x, i < j → l[i]? = some x → leS 0 x s = true) →
    ∃ L' j', (∀ kn kx kr, zLoop q bodyJ kn kx kr L (VR key i nodes k atv (iV j) v6 (.loc sn 0) i2 out) (rep H) = kx 4 L' (VR key i nodes k atv (iV (j' : Nat)) v6 (.loc sn 0) i2 out) (rep H)) ∧ j' ≤ l.length ∧ insS 0 s l = l.take j' ++ s :: l.drop j' := by
  have stop : ∀ (j q : Nat) (L L' : List AV), (∀ kn kx kr, cond34 kn kx kr L (VR key i nodes k atv (iV j) v6 (.loc sn 0) i2 out) (rep H) = kn (.bool false :: L') (VR key i nodes k atv (iV j) v6 (.loc sn 0) i2 out) (rep H)) → ∀ kn kx kr, zLoop (q + 1) bodyJ kn kx kr L (VR key i nodes k atv (iV j) v6 (.loc sn 0) i2 out) (rep H) = kx 4 (.bool false :: L') (VR key i nodes k atv (iV j) v6 (.loc sn 0) i2 out) (rep H) := fun j q L L' hc kn kx kr => by
    rw [zLoop_succ]
    conv => lhs; unfold bodyJ
    refine zSeq_app.trans ?_
    refine zSeq_app.trans ?_
    refine (hc _ _ _).trans ?_
    refine (zCond_eq (p := false) rfl).trans ?_
    rw [if_neg (by decide)]
    exact zExit_app
  intro d
  induction d with
  | zero =>
    intro j q L hj hq hpre
    obtain ⟨q', rfl⟩ : ∃ q', q = q' + 1 := ⟨q - 1, by omega⟩
    obtain ⟨L', hc⟩ := cond_none key i nodes k atv v6 (.loc sn 0) i2 out (rep H) j l (fun L c => ho.len rfl c) (by omega) L
    exact ⟨_, j, stop j q' L L' hc, by omega, ins_at 0 s l j (by omega) hpre (fun x hx => by have := (List.getElem?_eq_some_iff.1 hx).1; omega)⟩
  | succ d ih =>
    intro j q L hj hq hpre
    obtain ⟨q', rfl⟩ : ∃ q', q = q' + 1 := ⟨q - 1, by omega⟩
    have hlt : j < l.length := by omega
    have hw : IntKind.i64.wrap ((j : Int) + 1) = ((j + 1 : Nat) : Int) := by rw [IntKind.wrap_i64]; omega
    obtain ⟨⟨fj, nj⟩, hx⟩ : ∃ x, l[j]? = some x := ⟨l[j], by simp [hlt]⟩
    have hx64 := hl64 _ (List.mem_of_getElem? hx)
    rcases ho with ⟨rfl, _⟩ | ⟨hne, nm, rfl, hrow⟩
    · simp at hlt
    have hcond : ∃ L', ∀ kn kx kr, cond34 kn kx kr L (VR key i nodes k atv (iV j) (.own nm 0 l.length 2) (.loc sn 0) i2 out) (rep H) = kn (.bool (leS 0 (fj, nj) s) :: L') (VR key i nodes k atv (iV j) (.own nm 0 l.length 2) (.loc sn 0) i2 out) (rep H) := by
      rw [leS0 hx64 hs64]
      by_cases h1 : fj < s.1
      · rw [if_pos h1]; exact cond_lt key i nodes k atv i2 out H j nm sn fj s.1 nj s.2 l hrow hs hlt hx L h1
      · rw [if_neg h1]
        by_cases h2 : fj = s.1
        · rw [if_pos h2]; exact cond_eq key i nodes k atv i2 out H j nm sn fj s.1 nj s.2 l hrow hs hlt hx L h1 h2
        · rw [if_neg h2]; exact cond_gt key i nodes k atv i2 out H j nm sn fj s.1 nj s.2 l hrow hs hlt hx L h1 h2
    obtain ⟨L1, hc⟩ := hcond
    cases hle : leS 0 (fj, nj) s with
    | false =>
      rw [hle] at hc
      exact ⟨_, j, stop j q' L L1 hc, by omega, ins_at 0 s l j (by omega) hpre (fun x hx' => by rw [hx] at hx'; cases hx'; exact hle)⟩
    | true =>
      rw [hle] at hc
      obtain ⟨L2, j', e2, h2⟩ := ih (j + 1) q' [.int .i64 ((j + 1 : Nat) : Int), iV j] (by omega) (by omega) (fun i' x hi' hx' => by
        by_cases hij : i' = j
        · subst hij; rw [hx] at hx'; cases hx'; exact hle
        · exact hpre i' x (by omega) hx')
      refine ⟨L2, j', fun kn kx kr => ?_, h2⟩
      rw [zLoop_succ]
      refine Eq.trans ?_ (e2 kn kx kr)
      conv => lhs; unfold bodyJ
      refine zSeq_app.trans ?_
      refine zSeq_app.trans ?_
      refine (hc _ _ _).trans ?_
      refine (zCond_eq (p := true) rfl).trans ?_
      rw [if_pos rfl]
      refine zSkip_app.trans ?_
      refine zBlock_app.trans ?_
      refine zReg_eq.trans ?_
      refine (zP_v vMv_eq).trans ?_
      refine (zP_v (vInt_eq fAdd_ok rfl rfl rfl)).trans ?_
      rw [hw]
      exact zV_v vMv_eq
end Go.Proofs.PxR2
