/- Told functions: in general; strings' comparison. -/
import Derived.Test.YtefondfmngjekaaGreatPxV
import Derived.Lib.Bytealg
import Derived.Laws.Externs
set_option linter.unusedVariables false
set_option linter.unusedSimpArgs false
namespace Go.Px
open Go Go.Lib

/-- What a told function's teller must show at the machine. -/
def SayOk (P : Program) (f : Nat) (q : List AV → Option (Heap → Option (Eff × Acc))) : Prop :=
  ∀ args p, q args = some p → ∀ H eff acc, p H = some (eff, acc) → ∀ base sl m S w (args' : Array Value), Rel P base m S H w → SlotOk m H sl → RepL m S w false args'.toList args →
    ∃ H' x, effTo sl H eff = some (H', x) ∧ (((callFunc f args').run P w = .ok (.enter f args') w ∧ ∀ n, CallsIn Fence.wide n P f args' w (Back P base sl m S H w H' x)) ∨ (∃ v', (callFunc f args').run P w = .ok (.value v') w ∧ H' = H ∧ Rep m S w false v' x))

def SayFr (q : List AV → Option (Heap → Option (Eff × Acc))) : Prop :=
  ∀ args p, q args = some p → ∀ H eff acc, p H = some (eff, acc) → EffWf eff acc ∧ (∀ t a, eff ≠ .call t a) ∧ ∀ H1, Agree acc H H1 → p H1 = some (eff, acc)

def Env.say (E : Env) (f : Nat) (q : List AV → Option (Heap → Option (Eff × Acc))) : Env :=
  { E with prim := fun g args => match (if g = f then q args else none) with
    | some r => some r
    | none => E.prim g args }

theorem say_cases {E : Env} {f : Nat} {q : List AV → Option (Heap → Option (Eff × Acc))} {g : Nat} {args : List AV} {p : Heap → Option (Eff × Acc)} (h : (E.say f q).prim g args = some p) : (g = f ∧ q args = some p) ∨ E.prim g args = some p := by
  simp only [Env.say] at h
  by_cases hg : g = f
  · rw [if_pos hg] at h
    cases hp : q args with
    | none => rw [hp] at h; exact .inr h
    | some r => rw [hp] at h; exact .inl ⟨hg, h⟩
  · rw [if_neg hg] at h; exact .inr h

section
variable {P : Program} {E : Env} {f : Nat} {q : List AV → Option (Heap → Option (Eff × Acc))}
theorem say_env (hE : EnvOk P E) : EnvOk P (E.say f q) := ⟨hE.ty, hE.fn⟩
theorem say_fr (hE : PrimFr E) (hq : SayFr q) : PrimFr (E.say f q) := ⟨fun g args p hp H eff acc h => by
  rcases say_cases hp with ⟨rfl, hp2⟩ | hp2
  · exact hq args p hp2 H eff acc h
  · exact hE.fr g args p hp2 H eff acc h⟩
theorem say_ok (hE : PrimOk P E) (hq : SayOk P f q) : PrimOk P (E.say f q) := fun g args p hp => by
  rcases say_cases hp with ⟨rfl, hp2⟩ | hp2
  · exact hq args p hp2
  · exact hE g args p hp2

/-! ### strings' comparison -/
def cmpN (a b : List Nat) : Int := if a == b then 0 else if lessN a b then -1 else 1

def sayCmp : List AV → Option (Heap → Option (Eff × Acc))
  | [.str a, .str b] => some fun _ => some (.val (.int .i64 (cmpN a b)), Acc.none)
  | _ => none

theorem compare_cmpN : ∀ (x y : List UInt8), compareBytes x y = cmpN (x.map UInt8.toNat) (y.map UInt8.toNat)
  | [], [] => rfl
  | [], _ :: _ => by simp [compareBytes, cmpN, lessN]
  | _ :: _, [] => by simp [compareBytes, cmpN, lessN]
  | a :: x, b :: y => by
    have ih := compare_cmpN x y
    simp only [compareBytes, List.map_cons]
    by_cases h1 : a < b
    · have h1' : a.toNat < b.toNat := UInt8.lt_iff_toNat_lt.1 h1
      have hne : ¬ (a.toNat = b.toNat) := by omega
      simp [h1, cmpN, lessN, hne, h1']
    · have h1' : ¬ (a.toNat < b.toNat) := fun h => h1 (UInt8.lt_iff_toNat_lt.2 h)
      by_cases h2 : b < a
      · have h2' : b.toNat < a.toNat := UInt8.lt_iff_toNat_lt.1 h2
        have hne : ¬ (a.toNat = b.toNat) := by omega
        simp [h1, h2, cmpN, lessN, hne, h1']
      · have h2' : ¬ (b.toNat < a.toNat) := fun h => h2 (UInt8.lt_iff_toNat_lt.2 h)
        have he : a.toNat = b.toNat := by omega
        rw [if_neg h1, if_neg h2, ih]
        simp [cmpN, lessN, he]

theorem sayCmp_fr : SayFr sayCmp := by
  intro args p hq H eff acc h
  unfold sayCmp at hq
  split at hq
  · cases hq
    simp at h; obtain ⟨rfl, rfl⟩ := h
    exact ⟨⟨rfl, trivial⟩, fun t a h => by simp at h, fun H1 _ => rfl⟩
  · cases hq

theorem sayCmp_ok {fn : Func} (hf : P.funcs[f]? = some fn) (hname : (fn.name == "runtime.NumGoroutine") = false) (hb : fn.body.isNone = true) (hn : Extern.findNext fn = none) (he : Extern.find fn = some Extern.BytealgCompare.compare) : SayOk P f sayCmp := by
  intro args p hq H eff acc h base sl m S w args' hR hs ha
  unfold sayCmp at hq
  split at hq
  · rename_i a b
    cases hq
    simp at h; obtain ⟨rfl, rfl⟩ := h
    obtain ⟨l, hl⟩ : ∃ l, l = args'.toList := ⟨_, rfl⟩
    rw [← hl] at ha
    cases ha with
    | cons _ v _ vs _ h1 t1 =>
      cases t1 with
      | cons _ v2 _ vs2 _ h2 t2 =>
        cases t2
        obtain ⟨sa, rfl, hsa⟩ := rep_str h1
        obtain ⟨sb, rfl, hsb⟩ := rep_str h2
        have harr : args' = #[.string sa, .string sb] := by apply Array.ext'; simpa using hl.symm
        subst harr
        refine ⟨H, _, rfl, .inr ⟨.int .i64 (compareBytes sa.data.toList sb.data.toList), ?_, rfl, ?_⟩⟩
        · rw [run_callFunc_extern hf hname hb hn he, run_compareString]; rfl
        · rw [compare_cmpN, hsa, hsb]; exact .int _ _ _
  · cases hq
end
end Go.Px
