/- Functions that make a value and leave the world: told. errors.Is over numbers that are errors. -/
import Derived.Test.YtefondfmngjekaaGreatPxZ
set_option linter.unusedVariables false
set_option linter.unusedSimpArgs false
namespace Go.Px
open Go Go.Lib Go.RowKit

/-- A value, and nothing else. -/
def sayV (q : List AV → Option AV) (args : List AV) : Option (Heap → Option (Eff × Acc)) := (q args).map fun r _ => some (.val r, Acc.none)

theorem sayV_fr (q : List AV → Option AV) : SayFr (sayV q) := by
  intro args p hq H eff acc h
  simp only [sayV, Option.map_eq_some_iff] at hq
  obtain ⟨r, _, rfl⟩ := hq
  simp at h; obtain ⟨rfl, rfl⟩ := h
  exact ⟨⟨rfl, trivial⟩, fun t a h => by simp at h, fun H1 _ => rfl⟩

section
variable {P : Program} {f : Nat}
theorem sayV_ok {q : List AV → Option AV} {fn : Func} (hf : P.funcs[f]? = some fn) (hname : (fn.name == "runtime.NumGoroutine") = false) (hb : fn.body.isSome = true)
    (hw : ∀ args r, q args = some r → ∀ m S w (args' : Array Value), RepL m S w false args'.toList args → ∃ v', (Calls P f args' w fun e w1 => e = .returned v' ∧ w1 = w) ∧ Rep m S w false v' r) : SayOk P f (sayV q) := by
  intro args p hq H eff acc h base sl m S w args' hR hs ha
  simp only [sayV, Option.map_eq_some_iff] at hq
  obtain ⟨r, hr, rfl⟩ := hq
  simp at h; obtain ⟨rfl, rfl⟩ := h
  obtain ⟨v', hc, hv⟩ := hw args r hr m S w args' ha
  exact ⟨H, r, rfl, .inl ⟨enters hf hname hb _ _, fun n => back_of ⟨v', w, m, S, rfl, Step.refl hR, Gaps.refl _ _ _, hv⟩ hc n⟩⟩

/-- errors.Is: of nil, of numbers of the one type 't'. -/
def isQ (t : TypeId) : List AV → Option AV
  | [.nilIface, .iface u (.int .i64 _)] => if Nat.beq u t then some (.bool false) else none
  | [.iface v (.int .i64 n), .iface u (.int .i64 k)] => if Nat.beq u t && Nat.beq v t then some (.bool (n == k)) else none
  | _ => none

theorem isQ_ok {t : TypeId} {fn : Func} (hf : P.funcs[f]? = some fn) (hname : (fn.name == "runtime.NumGoroutine") = false) (hb : fn.body.isSome = true)
    (h1 : ∀ k w, Calls P f #[.nilIface, .iface t (.int .i64 k)] w fun e w1 => e = .returned (.bool false) ∧ w1 = w)
    (h2 : ∀ n w, Calls P f #[.iface t (.int .i64 n), .iface t (.int .i64 n)] w fun e w1 => e = .returned (.bool true) ∧ w1 = w)
    (h3 : ∀ n k w, n ≠ k → Calls P f #[.iface t (.int .i64 n), .iface t (.int .i64 k)] w fun e w1 => e = .returned (.bool false) ∧ w1 = w) : SayOk P f (sayV (isQ t)) := by
  refine sayV_ok hf hname hb fun args r hq m S w args' ha => ?_
  obtain ⟨l, hl⟩ : ∃ l, l = args'.toList := ⟨_, rfl⟩
  rw [← hl] at ha
  unfold isQ at hq
  split at hq
  · rename_i u k
    split at hq
    · rename_i hu
      obtain rfl := Nat.eq_of_beq_eq_true hu
      cases hq
      cases ha with
      | cons _ v _ vs _ r1 t1 =>
        cases t1 with
        | cons _ v2 _ vs2 _ r2 t2 =>
          cases t2
          cases r1
          cases r2 with
          | iface _ _ x _ r3 =>
            obtain rfl := rep_int r3
            have harr : args' = #[.nilIface, .iface u (.int .i64 k)] := by apply Array.ext'; simpa using hl.symm
            subst harr
            exact ⟨_, h1 k w, .bool _ _⟩
    · cases hq
  · rename_i v0 n u k
    split at hq
    · rename_i hu
      rw [Bool.and_eq_true] at hu
      obtain rfl := Nat.eq_of_beq_eq_true hu.1
      obtain rfl := Nat.eq_of_beq_eq_true hu.2
      cases hq
      cases ha with
      | cons _ v _ vs _ r1 t1 =>
        cases t1 with
        | cons _ v2 _ vs2 _ r2 t2 =>
          cases t2
          cases r1 with
          | iface _ _ y _ r4 =>
            obtain rfl := rep_int r4
            cases r2 with
            | iface _ _ x _ r3 =>
              obtain rfl := rep_int r3
              have harr : args' = #[.iface v0 (.int .i64 n), .iface v0 (.int .i64 k)] := by apply Array.ext'; simpa using hl.symm
              subst harr
              by_cases hnk : n = k
              · subst hnk
                exact ⟨_, h2 n w, by simpa using Rep.bool (m := m) (S := S) (w := w) false true⟩
              · have : (n == k) = false := beq_eq_false_iff_ne.2 hnk
                rw [this]
                exact ⟨_, h3 n k w hnk, .bool _ _⟩
    · cases hq
  · cases hq
end

theorem sayV_nl (q : List AV → Option AV) : ∀ args p, sayV q args = some p → ∀ H eff acc, p H = some (eff, acc) → ∃ r, eff = .val r := fun args p hq H eff acc h => by
  simp only [sayV, Option.map_eq_some_iff] at hq
  obtain ⟨r, _, rfl⟩ := hq
  simp at h; obtain ⟨rfl, _⟩ := h
  exact ⟨r, rfl⟩
end Go.Px
