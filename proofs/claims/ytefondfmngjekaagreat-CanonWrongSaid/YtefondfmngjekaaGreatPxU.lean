/- Environments: layers of told functions; the world behind a call is grown. -/
import Derived.Test.YtefondfmngjekaaGreatPxT
import Derived.RowKit3
set_option linter.unusedVariables false
set_option linter.unusedSimpArgs false
namespace Go.Px
open Go Go.RowKit

section
variable {P : Program} {E : Env}

/-- A function whose answer is told: at the arguments where 'p' speaks. -/
def Env.tell (E : Env) (f : Nat) (p : List AV → Option AV) : Env :=
  { E with prim := fun g args => match (if g = f then p args else none) with
    | some r => some fun _ => some (.val r, Acc.none)
    | none => E.prim g args }

theorem tell_cases {E : Env} {f : Nat} {p : List AV → Option AV} {g : Nat} {args : List AV} {q : Heap → Option (Eff × Acc)} (h : (E.tell f p).prim g args = some q) : (g = f ∧ ∃ r, p args = some r ∧ q = fun _ => some (.val r, Acc.none)) ∨ E.prim g args = some q := by
  simp only [Env.tell] at h
  by_cases hg : g = f
  · rw [if_pos hg] at h
    cases hp : p args with
    | none => rw [hp] at h; exact .inr h
    | some r => rw [hp] at h; simp at h; exact .inl ⟨hg, r, rfl, h.symm⟩
  · rw [if_neg hg] at h; exact .inr h

theorem tell_ok (hE : EnvOk P E) (f : Nat) (p : List AV → Option AV) : EnvOk P (E.tell f p) := ⟨hE.ty, hE.fn⟩

theorem tell_fr (hE : PrimFr E) (f : Nat) (p : List AV → Option AV) : PrimFr (E.tell f p) := ⟨fun g args q hq H eff acc h => by
  rcases tell_cases hq with ⟨rfl, r, hr, rfl⟩ | hq
  · simp at h; obtain ⟨rfl, rfl⟩ := h
    exact ⟨⟨rfl, trivial⟩, fun t a h => by simp at h, fun H1 _ => rfl⟩
  · exact hE.fr g args q hq H eff acc h⟩

theorem fzL_nil {f g : AV → Option (AV × List Nat)} : ∀ {l r : List AV} {ns : List Nat}, fzL f l = some (r, ns) → (∀ v x ms, f v = some (x, ms) → x = v ∧ ms = [] ∧ g v = some (v, [])) → r = l ∧ ns = [] ∧ fzL g l = some (l, [])
  | [], r, ns, h, _ => by simp [fzL] at h ⊢; exact ⟨h.1.symm ▸ rfl, h.2.symm ▸ rfl⟩
  | v :: l, r, ns, h, hg => by
    simp only [fzL, Option.bind_eq_bind] at h ⊢
    cases hv : f v with
    | none => simp [hv] at h
    | some q =>
      obtain ⟨x, ms⟩ := q
      cases hl : fzL f l with
      | none => simp [hv, hl] at h
      | some q2 =>
        obtain ⟨xs, ms2⟩ := q2
        simp [hv, hl] at h
        obtain ⟨rfl, rfl⟩ := h
        obtain ⟨rfl, rfl, h3⟩ := hg v x ms hv
        obtain ⟨rfl, rfl, h6⟩ := fzL_nil hl hg
        exact ⟨rfl, rfl, by rw [h3, h6]; rfl⟩

/-- What is frozen with nothing at hand names nothing. -/
theorem fz_nil (H : Heap) : ∀ (k : Nat) {v x : AV} {ns : List Nat}, fz E [] k v = some (x, ns) → x = v ∧ ns = [] ∧ fz E H k v = some (v, [])
  | 0, v, x, ns, h => by simp [fz] at h
  | k + 1, v, x, ns, h => by
    have hL : ∀ {l r : List AV} {ms : List Nat}, fzL (fz E [] k) l = some (r, ms) → r = l ∧ ms = [] ∧ fzL (fz E H k) l = some (l, []) := fun hl => fzL_nil hl (fun v x ms hv => fz_nil H k hv)
    cases v with
    | own nm off n sz => simp [fz] at h
    | loc nm off => simp [fz] at h
    | agg cs =>
      simp only [fz] at h ⊢
      cases hl : fzL (fz E [] k) cs with
      | none => simp [hl] at h
      | some q => obtain ⟨l, ms⟩ := q; simp [hl] at h; obtain ⟨rfl, rfl⟩ := h; obtain ⟨rfl, rfl, g⟩ := hL hl; simp [g]
    | tup cs =>
      simp only [fz] at h ⊢
      cases hl : fzL (fz E [] k) cs with
      | none => simp [hl] at h
      | some q => obtain ⟨l, ms⟩ := q; simp [hl] at h; obtain ⟨rfl, rfl⟩ := h; obtain ⟨rfl, rfl, g⟩ := hL hl; simp [g]
    | clo f cs =>
      simp only [fz] at h ⊢
      cases hl : fzL (fz E [] k) cs with
      | none => simp [hl] at h
      | some q => obtain ⟨l, ms⟩ := q; simp [hl] at h; obtain ⟨rfl, rfl⟩ := h; obtain ⟨rfl, rfl, g⟩ := hL hl; simp [g]
    | iface t y =>
      simp only [fz] at h ⊢
      cases hl : fz E [] k y with
      | none => simp [hl] at h
      | some q => obtain ⟨l, ms⟩ := q; simp [hl] at h; obtain ⟨rfl, rfl⟩ := h; obtain ⟨rfl, rfl, g⟩ := fz_nil H k hl; simp [g]
    | yield l => simp [fz] at h
    | map l => simp [fz] at h
    | undef => simp [fz] at h
    | _ => simp [fz] at h ⊢; exact ⟨h.1.symm, h.2.symm ▸ rfl⟩

/-- A pure function of what names nothing: whatever the heap. -/
theorem callA_bare {k : Nat} {f : Nat} {args : List AV} {r : AV} {H' : Heap} {acc : Acc} (hp : E.pure f = true) (h : callA E k (.func f) args [] = some (r, H', acc)) (H : Heap) : callA E k (.func f) args H = some (r, H, ⟨[], [], false⟩) := by
  cases k with
  | zero => simp [callA] at h
  | succ k =>
    simp only [callA, Option.bind_eq_bind] at h ⊢
    cases hf : E.fn f with
    | none => simp [hf] at h
    | some fn =>
      simp only [hf, Option.bind_some, hp, if_true] at h ⊢
      cases hz : fzL (fz E [] fzDeep) args with
      | none => simp [hz] at h
      | some q =>
        obtain ⟨fargs, ns⟩ := q
        obtain ⟨rfl, rfl, g⟩ := fzL_nil hz (fun v x ms hv => fz_nil H fzDeep hv)
        rw [hz] at h
        rw [g]
        simp only [Option.bind_some, fL_eq] at h ⊢
        cases hb : runBody E (callA E k) k fn fargs [] with
        | none => simp [hb] at h
        | some q2 =>
          obtain ⟨r0, H2⟩ := q2
          simp only [hb, Option.bind_some] at h ⊢
          cases hz2 : fz E H2 fzDeep r0 with
          | none => simp [hz2] at h
          | some q3 =>
            obtain ⟨r', ns2⟩ := q3
            simp [hz2] at h ⊢
            obtain ⟨rfl, _, _⟩ := h
            exact ⟨rfl, fun _ => rfl⟩

/-- What was reckoned may be told: of a pure function, of arguments that name nothing. -/
theorem tell_prim (hE : EnvOk P E) (hPf : PrimFr E) (hP : PrimOk P E) (hmix : P.follows .mixedOrders = true) {f : Nat} {p : List AV → Option AV} (hp : E.pure f = true)
    (h : ∀ args r, p args = some r → ∃ k H' acc, callA E k (.func f) args [] = some (r, H', acc)) : PrimOk P (E.tell f p) := by
  intro g args q hq H eff acc he base sl m S w args' hR hs ha
  rcases tell_cases hq with ⟨rfl, r, hr, rfl⟩ | hq
  · simp at he; obtain ⟨rfl, rfl⟩ := he
    obtain ⟨k, H', acc', h3⟩ := h args r hr
    have h4 := callA_bare hp h3 H
    refine ⟨H, r, rfl, .inl ?_⟩
    obtain ⟨g1, h5⟩ := (callSim hE hPf hP hmix k).fn g args H r H _ h4 base m S w args' hR ha
    refine ⟨g1, fun n => (h5 n).mono fun e w' hb => ?_⟩
    obtain ⟨v', m', S', rfl, b1, b2, b3⟩ := hb
    exact ⟨v', m', S', rfl, b1, b2.none_to, b3⟩
  · exact hP g args q hq H eff acc he base sl m S w args' hR hs ha

/-- The world behind a pure call is grown. -/
theorem pure_grown (hE : EnvOk P E) (hPf : PrimFr E) (hP : PrimOk P E) (hmix : P.follows .mixedOrders = true) {k : Nat} {f : FuncId} {args : List AV} {b : Bool} {H' : Heap} {acc : Acc} (h : callA E k (.func f) args [] = some (.bool b, H', acc)) {S : Sett} {w : World} {args' : Array Value}
    (hS : ∀ b j, S b j → (w.cell? ⟨b, j, none⟩).isSome = true) (ha : RepL m0 S w false args'.toList args) : Calls P f args' w fun e w' => e = .returned (.bool b) ∧ Grown w w' := by
  refine (pure_calls hE hPf hP hmix h hS ha).mono fun e w' hb => ?_
  obtain ⟨v, m', S', rfl, h1, h2, h3, h4, h5, h6, h7⟩ := hb
  have := rep_bool h1
  subst this
  refine ⟨rfl, ⟨h4, h6, fun i hi => ?_⟩, h7, h2⟩
  rw [h3 i hi]
  cases hw : w.heap[i]? with
  | none => rfl
  | some o =>
    cases o with
    | cells c t fr => exact ⟨rfl, rfl, rfl, fun _ _ => rfl⟩
    | map es c => exact .inr ⟨rfl, rfl⟩
    | _ => rfl
end
end Go.Px
#print axioms Go.Px.pure_grown
