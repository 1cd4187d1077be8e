/- Code: the machine does what the abstract machine reckons. -/
import Derived.Test.YtefondfmngjekaaGreatPxQ
set_option linter.unusedVariables false
set_option linter.unusedSimpArgs false
namespace Go.Px
open Go

section
variable {P : Program} {E : Env} {base : Nat} {n : Nat}

/-- One piece of code, from every state. -/
def SimC (P : Program) (base e0 : Nat) (F : Fence) (n : Nat) (c : Code) (f : St → Option (AExit × St)) : Prop :=
  ∀ {st st' : St} {e : AExit} {m : Mu} {S : Sett} {w : World} {a : Act} {Q : Exit → Act → World → Prop}, f st = some (e, st') → Rel P base m S st.H w → RepL m S w false a.tmps.toList st.tm → MarksOk e0 a.defers m st.H w → InRound F w →
    (∀ a' w' m' S', Step P base m S st.H w m' S' st'.H w' → Gaps none m st.H m' st'.H → RepL m' S' w' false a'.tmps.toList st'.tm → MarksOk e0 a'.defers m' st'.H w' → Q (exitOf e) a' w') → c.wpIn F n P Q a w

theorem SimC.loop {e0 : Nat} {F : Fence} {c : Code} {f : St → Option (AExit × St)} (h : SimC P base e0 F n c f) : ∀ (k : Nat) {st st' : St} {e : AExit} {m : Mu} {S : Sett} {w : World} {a : Act} {Q : Exit → Act → World → Prop},
    loopN f k st = some (e, st') → Rel P base m S st.H w → RepL m S w false a.tmps.toList st.tm → MarksOk e0 a.defers m st.H w → InRound F w →
    (∀ a' w' m' S', Step P base m S st.H w m' S' st'.H w' → Gaps none m st.H m' st'.H → RepL m' S' w' false a'.tmps.toList st'.tm → MarksOk e0 a'.defers m' st'.H w' → Q (exitOf e) a' w') → Code.roundsIn F n P c Q k a w
  | 0, st, st', e, m, S, w, a, Q, hf, _, _, _, _, _ => by simp [loopN] at hf
  | k + 1, st, st', e, m, S, w, a, Q, hf, hR, hT, hM, hI, hK => by
    simp only [loopN, Option.bind_eq_bind] at hf
    cases h1 : f st with
    | none => simp [h1] at hf
    | some q =>
      obtain ⟨e1, s1⟩ := q
      simp only [h1, Option.bind_some] at hf
      show c.wpIn F n P (Exit.then (Code.roundsIn F n P c Q k) Q) a w
      refine h h1 hR hT hM hI fun a' w' m' S' g1 g2 g3 g4 => ?_
      cases e1 with
      | normal =>
        simp only at hf
        exact SimC.loop h k hf g1.rel g3 g4 (hI.step g1) fun a2 w2 m2 S2 k1 k2 k3 k4 => hK a2 w2 m2 S2 (g1.trans k1) (g2.trans k2 g1.len) k3 k4
      | exit id =>
        simp at hf; obtain ⟨rfl, rfl⟩ := hf
        exact hK a' w' m' S' g1 g2 g3 g4
      | ret =>
        simp at hf; obtain ⟨rfl, rfl⟩ := hf
        exact hK a' w' m' S' g1 g2 g3 g4

theorem codeSim (hE : EnvOk P E) (hPf : PrimFr E) (hP : PrimOk P E) {call : CallT} (hCf : CallFr call) (hC : CallSim P call) (hmix : P.follows .mixedOrders = true) {F : Fence} (hF : WideF F) (e0 k : Nat) : ∀ c : Code, SimC P base e0 F n c (evalC E call k c) := by
  intro c
  induction c with
  | skip =>
    intro st st' e m S w a Q h hR hT hM hI hK
    simp [evalC] at h; obtain ⟨rfl, rfl⟩ := h
    exact wpIn_skip (hK a w m S (Step.refl hR) (Gaps.refl _ _ _) hT hM)
  | label l =>
    intro st st' e m S w a Q h hR hT hM hI hK
    simp [evalC] at h; obtain ⟨rfl, rfl⟩ := h
    exact wpIn_label (hK a w m S (Step.refl hR) (Gaps.refl _ _ _) hT hM)
  | exit id =>
    intro st st' e m S w a Q h hR hT hM hI hK
    simp [evalC] at h; obtain ⟨rfl, rfl⟩ := h
    exact wpIn_exit (hK a w m S (Step.refl hR) (Gaps.refl _ _ _) hT hM)
  | ret =>
    intro st st' e m S w a Q h hR hT hM hI hK
    simp [evalC] at h; obtain ⟨rfl, rfl⟩ := h
    exact wpIn_ret (hK a w m S (Step.refl hR) (Gaps.refl _ _ _) hT hM)
  | region id ops draw =>
    intro st st' e m S w a Q h hR hT hM hI hK
    simp only [evalC] at h
    cases hr : runRegion E call ops.toList draw st with
    | none => simp [hr] at h
    | some s1 =>
      simp [hr] at h; obtain ⟨rfl, rfl⟩ := h
      refine regionSim hE hPf hP hCf hC hF hmix hr hR hT fun a' w' m' S' g1 g2 g3 g4 => hK a' w' m' S' g1 g2 g3 ?_
      rw [g4]; exact hM.step g1
  | seq x y ihx ihy =>
    intro st st' e m S w a Q h hR hT hM hI hK
    simp only [evalC, Option.bind_eq_bind] at h
    cases h1 : evalC E call k x st with
    | none => simp [h1] at h
    | some q =>
      obtain ⟨e1, s1⟩ := q
      simp only [h1, Option.bind_some] at h
      refine wpIn_seq (ihx h1 hR hT hM hI fun a' w' m' S' g1 g2 g3 g4 => ?_)
      cases e1 with
      | normal =>
        simp only at h
        exact ihy h g1.rel g3 g4 (hI.step g1) fun a2 w2 m2 S2 k1 k2 k3 k4 => hK a2 w2 m2 S2 (g1.trans k1) (g2.trans k2 g1.len) k3 k4
      | exit id =>
        simp at h; obtain ⟨rfl, rfl⟩ := h
        exact hK a' w' m' S' g1 g2 g3 g4
      | ret =>
        simp at h; obtain ⟨rfl, rfl⟩ := h
        exact hK a' w' m' S' g1 g2 g3 g4
  | cond c x y ihx ihy =>
    intro st st' e m S w a Q h hR hT hM hI hK
    simp only [evalC] at h
    have hc := op_ok hT c
    split at h
    · rename_i hb
      rw [hb] at hc
      exact wpIn_cond_true (rep_bool hc) (ihx h hR hT hM hI hK)
    · rename_i hb
      rw [hb] at hc
      exact wpIn_cond_false (rep_bool hc) (ihy h hR hT hM hI hK)
    · cases h
  | block id b ih =>
    intro st st' e m S w a Q h hR hT hM hI hK
    simp only [evalC, Option.bind_eq_bind] at h
    cases h1 : evalC E call k b st with
    | none => simp [h1] at h
    | some q =>
      obtain ⟨e1, s1⟩ := q
      simp only [h1, Option.bind_some] at h
      refine wpIn_block (ih h1 hR hT hM hI fun a' w' m' S' g1 g2 g3 g4 => ?_)
      cases e1 with
      | normal =>
        simp at h; obtain ⟨rfl, rfl⟩ := h
        exact hK a' w' m' S' g1 g2 g3 g4
      | exit i =>
        simp only at h
        by_cases hi : i = id
        · rw [if_pos hi] at h
          simp at h; obtain ⟨rfl, rfl⟩ := h
          show Exit.inBlock id Q (.exit i) a' w'
          simp only [Exit.inBlock, hi, if_true]
          exact hK a' w' m' S' g1 g2 g3 g4
        · rw [if_neg hi] at h
          simp at h; obtain ⟨rfl, rfl⟩ := h
          show Exit.inBlock id Q (.exit i) a' w'
          simp only [Exit.inBlock, hi, if_false]
          exact hK a' w' m' S' g1 g2 g3 g4
      | ret =>
        simp at h; obtain ⟨rfl, rfl⟩ := h
        exact hK a' w' m' S' g1 g2 g3 g4
  | loop b ih =>
    intro st st' e m S w a Q h hR hT hM hI hK
    simp only [evalC] at h
    exact wpIn_loop_rounds k (SimC.loop ih k h hR hT hM hI hK)
  | rangeFunc g ps asg body _ _ =>
    intro st st' e m S w a Q h hR hT hM hI hK
    simp only [evalC] at h
    split at h
    · rename_i f caps hg
      simp only [Option.bind_eq_bind] at h
      cases hc : call (.func f) (.yield st.H.length :: caps) (st.H ++ [.loop .ready none (maskT (liveC ps.toList asg body) 0 st.tm) ps.toList asg body]) with
      | none => simp [hc] at h
      | some q =>
        obtain ⟨r, H1, ac⟩ := q
        simp only [hc, Option.bind_some] at h
        split at h
        · rename_i s pend tm ps1 asg1 bd1 hl
          split at h
          · cases h
          rename_i hsb
          have hgv := op_ok hT g
          rw [hg] at hgv
          obtain ⟨cs, hgv, hcs⟩ := rep_clo hgv
          refine wpIn_rangeFunc fun fn _ => ?_
          obtain ⟨lb, mark, w1, m1, r1, r2, r3, r4, r5⟩ := enter_ok hR (RepL.mask (liveC ps.toList asg body) 0 hT) hM hI fn ps asg body
          have hargs : RepL m1 S w1 false (#[Value.func (.yield lb) #[] #[]] ++ cs.toArray).toList (.yield st.H.length :: caps) := by
            have : (#[Value.func (.yield lb) #[] #[]] ++ cs.toArray).toList = Value.func (.yield lb) #[] #[] :: cs := by simp
            rw [this]
            exact .cons _ _ _ _ _ (.yield _ _ r2) (hcs.ext r3.ext)
          obtain ⟨k1, k2⟩ := hC.fn f _ _ r H1 ac hc base m1 S w1 _ r3.rel hargs
          refine ⟨lb, mark, w1, { target := .fn (.func f) cs.toArray, args := #[Value.func (.yield lb) #[] #[]] }, w1, f, #[Value.func (.yield lb) #[] #[]] ++ cs.toArray, w1, r1, ?_, fun _ _ => hF.fn _, ?_, fun h => (by rw [hF.depth] at h; cases h), ?_⟩
          · have hcv : a.eval (.const (.func (.yield lb) #[] #[])) = .func (.yield lb) #[] #[] := rfl
            simp [resolve, rangeCall, hgv, hcv, Deferred.ofValue]
          · simpa [invoke] using k1
          · refine (hF.calls _ _ _ _ _ _ (k2 (n - 1))).mono fun e' w2 hb => ?_
            obtain ⟨v', m2, S2, rfl, b1, b2, b3⟩ := hb
            obtain ⟨lb', rec, c1, c2, c3, c4, c5, c6, c7, c8, c9⟩ := b1.rel.obj st.H.length _ hl
            have hlb := b1.ext.mu _ _ r2
            rw [hlb] at c1; cases c1
            have hst : rec.state ≠ .busy := fun e => by rw [c4] at e; subst e; exact hsb rfl
            have hend : (Instr.endLoop lb).run P w2 = .ok pend (w2.putObj lb (.loop { rec with state := .exhausted })) := by
              rw [← c5]; exact run_endLoop (P := P) c3 hst
            have ht := loop_touch b1.rel (st' := .exhausted) (pd' := pend) (r' := { rec with state := .exhausted }) hl hlb c3 rfl c5 c6 c7 c8 rfl
            have hall := (r3.trans b1).trans ht
            have hgap : Gaps none m st.H m2 (H1.set st.H.length (.loop .exhausted pend tm ps1 asg1 bd1)) := by
              have g1 := r4.trans b2 (by simp)
              exact g1.trans (Gaps.set_live (sl := none) hl (by simp)) (Nat.le_trans (by simp) b1.len)
            have hT2 : RepL m2 S2 (w2.putObj lb (.loop { rec with state := .exhausted })) false a.tmps.toList st.tm := hT.ext hall.ext
            have hM2 := (r5.step b1).step ht
            refine ⟨pend, _, hend, ?_⟩
            cases pend with
            | none =>
              simp at h; obtain ⟨rfl, rfl⟩ := h
              exact hK { a with defers := mark ++ a.defers } _ m2 S2 hall hgap hT2 hM2
            | some j =>
              cases j with
              | ret =>
                simp at h; obtain ⟨rfl, rfl⟩ := h
                exact wpIn_ret (hK { a with defers := mark ++ a.defers } _ m2 S2 hall hgap hT2 hM2)
              | exit i =>
                simp at h; obtain ⟨rfl, rfl⟩ := h
                exact wpIn_exit (hK { a with defers := mark ++ a.defers } _ m2 S2 hall hgap hT2 hM2)
              | _ => simp at h
        · cases h
    · cases h
  | _ =>
    intro st st' e m S w a Q h
    simp [evalC] at h
end
end Go.Px
