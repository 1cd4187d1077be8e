/- What a seat's tables need: pieces of code, checks, told functions. -/
import Derived.Test.YtefondfmngjekaaGreatPzD
import Derived.Test.YtefondfmngjekaaGreatPxZa
set_option linter.unusedVariables false
set_option linter.unusedSimpArgs false
namespace Go.Px
open Go

/-- A piece of code, by the way to it. -/
def codeAt : List Nat → Code → Code
  | 0 :: w, .seq a _ => codeAt w a
  | _ :: w, .seq _ b => codeAt w b
  | 0 :: w, .cond _ a _ => codeAt w a
  | _ :: w, .cond _ _ b => codeAt w b
  | _ :: w, .block _ b => codeAt w b
  | _ :: w, .loop b => codeAt w b
  | 0 :: w, .rangeFunc _ _ a _ => codeAt w a
  | _ :: w, .rangeFunc _ _ _ b => codeAt w b
  | _, c => c
def bodyOf (fn : Func) : Code := fn.body.getD .skip

def lookT {α : Type} (l : List (Nat × α)) (f : Nat) : Option α := (l.find? fun p => Nat.beq p.1 f).map (·.2)
theorem lookT_mem {α : Type} {l : List (Nat × α)} {f : Nat} {x : α} (h : lookT l f = some x) : (f, x) ∈ l := by
  unfold lookT at h
  simp only [Option.map_eq_some_iff] at h
  obtain ⟨⟨a, b⟩, h1, h2⟩ := h
  simp only at h2; subst h2
  have h3 := List.find?_some h1
  have := Nat.eq_of_beq_eq_true h3
  simp only at this; subst this
  exact List.mem_of_find?_eq_some h1

/-- Two tables of the same numbers. -/
theorem two_tabs {α β : Type} {R : β → α → Prop} : ∀ (l : List (Nat × α × β)), (∀ p ∈ l, R p.2.2 p.2.1) → ∀ f, match lookT (l.map fun p => (p.1, p.2.1)) f, lookT (l.map fun p => (p.1, p.2.2)) f with
    | none, none => True
    | some a, some b => R b a
    | _, _ => False
  | [], h, f => trivial
  | p :: l, h, f => by
    have ih := two_tabs l (fun q hq => h q (List.mem_cons_of_mem _ hq)) f
    by_cases hb : Nat.beq p.1 f = true
    · have h1 : lookT ((p :: l).map fun p => (p.1, p.2.1)) f = some p.2.1 := by simp [lookT, hb]
      have h2 : lookT ((p :: l).map fun p => (p.1, p.2.2)) f = some p.2.2 := by simp [lookT, hb]
      rw [h1, h2]
      exact h p (List.mem_cons_self ..)
    · have hb' : Nat.beq p.1 f = false := Bool.eq_false_iff.2 hb
      have h1 : lookT ((p :: l).map fun p => (p.1, p.2.1)) f = lookT (l.map fun p => (p.1, p.2.1)) f := by simp [lookT, hb']
      have h2 : lookT ((p :: l).map fun p => (p.1, p.2.2)) f = lookT (l.map fun p => (p.1, p.2.2)) f := by simp [lookT, hb']
      rw [h1, h2]
      exact ih

theorem zeok_of {E : Env} {np : Nat → Bool} {GE : Nat → Option ZFn} {FE : Nat → Option FFn} (T : List (Nat × ZFn × FFn)) (h1 : GE = lookT (T.map fun p => (p.1, p.2.1))) (h2 : FE = lookT (T.map fun p => (p.1, p.2.2))) (h : ∀ p ∈ T, ZOk E np p.2.2 p.2.1) : ZEOk E np GE FE := fun f => by
  subst h1 h2
  have := two_tabs (R := fun b a => ZOk E np b a) T h f
  cases ha : lookT (T.map fun p => (p.1, p.2.1)) f <;> cases hb : lookT (T.map fun p => (p.1, p.2.2)) f <;> rw [ha, hb] at this <;> exact this
theorem zleok_of {E : Env} {np : Nat → Bool} {LZ : Nat → Option ZLn} {LE : Nat → Option LFn} (T : List (Nat × ZLn × LFn)) (h1 : LZ = lookT (T.map fun p => (p.1, p.2.1))) (h2 : LE = lookT (T.map fun p => (p.1, p.2.2))) (h : ∀ p ∈ T, ZLOk E np p.2.2 p.2.1) : ZLEOk E np LZ LE := fun f => by
  subst h1 h2
  have := two_tabs (R := fun b a => ZLOk E np b a) T h f
  cases ha : lookT (T.map fun p => (p.1, p.2.1)) f <;> cases hb : lookT (T.map fun p => (p.1, p.2.2)) f <;> rw [ha, hb] at this <;> exact this

theorem of_map {X : Option (FC × Sig × Nat)} {fc : FC} (h : X.map (·.1) = some fc) : ∃ s m', X = some (fc, s, m') := by
  rcases X with _ | ⟨a, s, m⟩
  · cases h
  · simp at h; subst h; exact ⟨s, m, rfl⟩

theorem rngL {p : Rng → Prop} {fc : FC} {l : List Rng} (h : rngs fc = l) (hl : ∀ r ∈ l, p r) : ∀ r ∈ rngs fc, p r := by rw [h]; exact hl

theorem lentry {LE : Nat → Option LFn} {lf : LFn} {id : Nat} {ps : List Nat} {asg body : Code} {N m1 m2 : Nat} (h1 : LE id = some lf) (h2 : lf.n = N) (h3 : (nodupB lf.vs && lf.vs.all fun t => Nat.blt t N) = true) (h4 : lf.ps = ps.map fun p => idxIn p lf.vs 0)
    (h5 : (compC (lvOf LE) lf.vs N asg (sig0 lf.vs 0) m1).map (·.1) = some lf.asg) (h6 : (compC (lvOf LE) lf.vs N body (sig0 lf.vs 0) m2).map (·.1) = some lf.body) : LEntry LE N (id, ps, asg, body) := by
  rw [Bool.and_eq_true, List.all_eq_true] at h3
  obtain ⟨s, m', e1⟩ := of_map h5
  obtain ⟨s2, m2', e2⟩ := of_map h6
  exact ⟨lf, h1, h2, nodupB_ok h3.1, fun t ht => Nat.le_of_ble_eq_true (h3.2 t ht), h4, ⟨s, m1, m', e1⟩, ⟨s2, m2, m2', e2⟩⟩

/-! ### told functions -/
theorem say_nl {E : Env} {f : Nat} {q : List AV → Option (Heap → Option (Eff × Acc))} (hE : PrimNL E) (hq : ∀ args p, q args = some p → ∀ H eff acc, p H = some (eff, acc) → NoLoopE eff) : PrimNL (E.say f q) := fun g args p hp => by
  rcases say_cases hp with ⟨_, h⟩ | h
  · exact hq args p h
  · exact hE g args p h
theorem tell_nl {E : Env} {f : Nat} {q : List AV → Option AV} (hE : PrimNL E) : PrimNL (E.tell f q) := fun g args p hp H eff acc h => by
  rcases tell_cases hp with ⟨_, r, _, rfl⟩ | h2
  · simp at h; obtain ⟨rfl, _⟩ := h; trivial
  · exact hE g args p h2 H eff acc h
theorem sayCmp_nl : ∀ args p, sayCmp args = some p → ∀ H eff acc, p H = some (eff, acc) → NoLoopE eff := fun args p hq H eff acc h => by
  unfold sayCmp at hq
  split at hq
  · cases hq; simp at h; obtain ⟨rfl, _⟩ := h; trivial
  · cases hq
theorem sayClone_nl (E : Env) (tS : TypeId) : ∀ args p, sayClone E tS args = some p → ∀ H eff acc, p H = some (eff, acc) → NoLoopE eff := fun args p hq H eff acc h => by
  unfold sayClone at hq
  split at hq
  · split at hq
    · cases hq; exact appendA_nl h
    · cases hq
  · cases hq
theorem sayInsert_nl (E : Env) (tS tE : TypeId) : ∀ args p, sayInsert E tS tE args = some p → ∀ H eff acc, p H = some (eff, acc) → NoLoopE eff := fun args p hq H eff acc h => by
  unfold sayInsert at hq
  split at hq
  · rename_i s i v
    split at hq
    · cases hq
      by_cases hi : i = (lenOf s : Int)
      · simp only [if_pos hi] at h; exact appendA_nl h
      · simp only [if_neg hi] at h
        unfold insOwn at h
        split at h
        · split at h
          · split at h
            · cases h; trivial
            · cases h
          · cases h
        · cases h
    · cases hq
  · cases hq

theorem say_np {E : Env} {f g : Nat} {q : List AV → Option (Heap → Option (Eff × Acc))} (h : f ≠ g) {as : List AV} (hE : E.prim f as = none) : (E.say g q).prim f as = none := by
  simp only [Env.say, if_neg h]; exact hE
theorem tell_np {E : Env} {f g : Nat} {q : List AV → Option AV} (h : f ≠ g) {as : List AV} (hE : E.prim f as = none) : (E.tell g q).prim f as = none := by
  simp only [Env.tell, if_neg h]; exact hE
end Go.Px
