/- A seat's tables: checked by reckoning. -/
import Derived.Test.YtefondfmngjekaaGreatPxU
set_option linter.unusedVariables false
set_option linter.unusedSimpArgs false
namespace Go.Px
open Go

def eqN (a b : Nat) : Bool := Nat.beq a b
theorem eqN_ok {a b : Nat} (h : eqN a b = true) : a = b := by simpa [eqN] using h
def eqP : List (Nat × Nat) → List (Nat × Nat) → Bool
  | [], [] => true
  | (a, b) :: l, (c, d) :: m => eqN a c && eqN b d && eqP l m
  | _, _ => false
theorem eqP_ok : ∀ {l m : List (Nat × Nat)}, eqP l m = true → l = m
  | [], [], _ => rfl
  | (a, b) :: l, (c, d) :: m, h => by
    simp only [eqP, Bool.and_eq_true] at h
    rw [eqN_ok h.1.1, eqN_ok h.1.2, eqP_ok h.2]
  | [], _ :: _, h => by simp [eqP] at h
  | (_, _) :: _, [], h => by simp [eqP] at h

def eqTD : TD → TD → Bool
  | .bool, .bool => true
  | .int j, .int k => decide (j = k)
  | .str, .str => true
  | .ptr a, .ptr b => eqN a b
  | .slice a, .slice b => eqN a b
  | .array n a, .array m b => eqN n m && eqN a b
  | .map a b, .map c d => eqN a c && eqN b d
  | .struct l, .struct m => eqP l m
  | .func, .func => true
  | .iface, .iface => true
  | _, _ => false
theorem eqTD_ok {a b : TD} (h : eqTD a b = true) : a = b := by
  cases a <;> cases b <;> simp only [eqTD] at h <;> first
    | rfl
    | (cases h; done)
    | (rw [of_decide_eq_true h]; done)
    | (rw [eqN_ok h]; done)
    | (simp only [Bool.and_eq_true] at h; rw [eqN_ok h.1, eqN_ok h.2]; done)
    | (rw [eqP_ok h]; done)

/-- Zero values. -/
def eqZ : AV → AV → Bool
  | .bool a, .bool b => a == b
  | .int j a, .int k b => decide (j = k) && decide (a = b)
  | .str [], .str [] => true
  | .sl 0 [] f, .sl 0 [] g => f == g
  | .nilFunc, .nilFunc => true
  | .nilIface, .nilIface => true
  | .nilptr, .nilptr => true
  | .nilmap, .nilmap => true
  | _, _ => false
theorem eqZ_ok {a b : AV} (h : eqZ a b = true) : a = b := by
  unfold eqZ at h
  split at h <;> first
    | rfl
    | (cases h; done)
    | (simp at h; simp [h]; done)
def eqZL : List AV → List AV → Bool
  | [], [] => true
  | a :: l, b :: m => eqZ a b && eqZL l m
  | _, _ => false
theorem eqZL_ok : ∀ {l m : List AV}, eqZL l m = true → l = m
  | [], [], _ => rfl
  | a :: l, b :: m, h => by
    simp only [eqZL, Bool.and_eq_true] at h
    rw [eqZ_ok h.1, eqZL_ok h.2]
  | [], _ :: _, h => by simp [eqZL] at h
  | _ :: _, [], h => by simp [eqZL] at h

def isAggV : Value → Bool
  | .agg _ => true
  | _ => false

def tyOkB (P : Program) (t : TypeId) (i : TyI) : Bool :=
  match P.underlying t, P.info? t with
  | some d, some info => match info.zero with
    | some z => eqTD i.desc (descA d) && eqN info.size i.size && eqN info.bytes i.bytes && eqZL (z.cells.toList.map ofVal) i.zero && i.zero.all one && eqN i.zero.length i.size &&
      (if i.desc.isAgg then isAggV z else eqN i.size 1 && !isAggV z) &&
      (match d with
       | .struct fs => (fs.toList.all fun f => (P.info? f.type).isSome && f.name != "_") && !P.stoodInHeld t && !P.eqGuardType P.depth t
       | .int _ => info.comparable
       | _ => true)
    | none => false
  | _, _ => false

theorem tyOkB_ok {P : Program} {t : TypeId} {i : TyI} (h : tyOkB P t i = true) : TyOk P t i := by
  unfold tyOkB at h
  cases hu : P.underlying t with
  | none => simp [hu] at h
  | some d =>
    cases hi : P.info? t with
    | none => simp [hu, hi] at h
    | some info =>
      cases hz : info.zero with
      | none => simp [hu, hi, hz] at h
      | some z =>
        simp only [hu, hi, hz, Bool.and_eq_true] at h
        obtain ⟨⟨⟨⟨⟨⟨⟨h1, h2⟩, h3⟩, h4⟩, h5⟩, h6⟩, h7⟩, h8⟩ := h
        refine ⟨d, info, z, hu, hi, eqTD_ok h1, eqN_ok h2, eqN_ok h3, hz, eqZL_ok h4, fun x hx => List.all_eq_true.1 h5 x hx, eqN_ok h6, fun ha => ?_, fun ha => ?_, fun fs hfs => ?_, fun k hk => ?_⟩
        · rw [ha] at h7
          simp only [if_true] at h7
          cases z <;> simp [isAggV] at h7
          exact ⟨_, rfl⟩
        · rw [ha] at h7
          simp only [Bool.false_eq_true, if_false, Bool.and_eq_true] at h7
          refine ⟨eqN_ok h7.1, ?_⟩
          cases z <;> first
            | rfl
            | (simp [isAggV] at h7)
        · subst hfs
          simp only [Bool.and_eq_true] at h8
          obtain ⟨⟨g1, g2⟩, g3⟩ := h8
          refine ⟨fun f hf => ?_, by simpa using g2, by simpa using g3⟩
          have := List.all_eq_true.1 g1 f hf
          simp only [Bool.and_eq_true] at this
          exact ⟨this.1, by simpa using this.2⟩
        · subst hk; exact h8

/-- The types of a table. -/
def tabOkB (P : Program) : Nat → List (Option TyI) → Bool
  | _, [] => true
  | t, none :: l => tabOkB P (t + 1) l
  | t, some i :: l => tyOkB P t i && tabOkB P (t + 1) l
theorem tabOkB_ok {P : Program} : ∀ {l : List (Option TyI)} {t : Nat}, tabOkB P t l = true → ∀ k i, l[k]? = some (some i) → TyOk P (t + k) i
  | [], t, _, k, i, hk => by simp at hk
  | none :: l, t, h, 0, i, hk => by simp at hk
  | none :: l, t, h, k + 1, i, hk => by
    have := tabOkB_ok (t := t + 1) h k i (by simpa using hk)
    rwa [show t + 1 + k = t + (k + 1) by omega] at this
  | some j :: l, t, h, k, i, hk => by
    simp only [tabOkB, Bool.and_eq_true] at h
    cases k with
    | zero => simp at hk; subst hk; exact tyOkB_ok h.1
    | succ k =>
      have := tabOkB_ok (t := t + 1) h.2 k i (by simpa using hk)
      rwa [show t + 1 + k = t + (k + 1) by omega] at this

theorem envOk_of {P : Program} {E : Env} {tyL : List (Option TyI)} {fnL : List Func} (ht : E.ty = fun t => (tyL[t]?).bind id) (hf : E.fn = fun f => fnL[f]?) (h1 : tabOkB P 0 tyL = true) (h2 : fnL = P.funcs.toList)
    (h3 : (P.funcs.toList.all fun g => !(g.name == "runtime.NumGoroutine")) = true) : EnvOk P E where
  ty t i h := by
    rw [ht] at h
    simp only at h
    cases hq : tyL[t]? with
    | none => simp [hq] at h
    | some q =>
      rw [hq] at h
      simp at h; subst h
      simpa using tabOkB_ok h1 t i hq
  fn f g h := by
    rw [hf, h2] at h
    simp only at h
    have hm := List.mem_of_getElem? h
    have := List.all_eq_true.1 h3 g hm
    exact ⟨by rw [Array.getElem?_toList] at h; exact h, by simpa using this⟩
end Go.Px
