/- Told calls: a table of arguments and answers, each reckoned by itself. -/
import Derived.Test.YtnpphcbfainkbaaGreatPzE
set_option linter.unusedVariables false
set_option linter.unusedSimpArgs false
namespace Go.Px
open Go

def eqK (a b : IntKind) : Bool := Nat.beq (kcode a) (kcode b)
def eqNL : List Nat → List Nat → Bool
  | [], [] => true
  | a :: l, b :: m => if Nat.beq a b then eqNL l m else false
  | _, _ => false
theorem eqNL_ok : ∀ {l m : List Nat}, eqNL l m = true → l = m
  | [], [], _ => rfl
  | a :: l, b :: m, h => by
    simp only [eqNL] at h
    split at h
    · rename_i h1
      rw [Nat.eq_of_beq_eq_true h1, eqNL_ok h]
    · cases h
  | [], _ :: _, h => by cases h
  | _ :: _, [], h => by cases h
def eqI : Int → Int → Bool
  | .ofNat a, .ofNat b => Nat.beq a b
  | .negSucc a, .negSucc b => Nat.beq a b
  | _, _ => false
theorem eqI_ok : ∀ {a b : Int}, eqI a b = true → a = b
  | .ofNat a, .ofNat b, h => by rw [Nat.eq_of_beq_eq_true h]
  | .negSucc a, .negSucc b, h => by rw [Nat.eq_of_beq_eq_true h]
  | .ofNat _, .negSucc _, h => by cases h
  | .negSucc _, .ofNat _, h => by cases h

mutual
/-- The same value, both of them frozen. -/
def eqV : AV → AV → Bool
  | .bool a, .bool b => a == b
  | .int j a, .int k b => if eqK j k then eqI a b else false
  | .str a, .str b => eqNL a b
  | .sl n a f, .sl m b g => if Nat.beq n m then (if f == g then eqVL a b else false) else false
  | .agg a, .agg b => eqVL a b
  | .tup a, .tup b => eqVL a b
  | .clo f a, .clo g b => if Nat.beq f g then eqVL a b else false
  | .nilFunc, .nilFunc => true
  | .nilIface, .nilIface => true
  | .iface t a, .iface u b => if Nat.beq t u then eqV a b else false
  | .ref a, .ref b => eqVL a b
  | .nilptr, .nilptr => true
  | .nilmap, .nilmap => true
  | _, _ => false
def eqVL : List AV → List AV → Bool
  | [], [] => true
  | a :: l, b :: m => if eqV a b then eqVL l m else false
  | _, _ => false
end

mutual
theorem eqV_ok : ∀ {a b : AV}, eqV a b = true → a = b
  | .bool a, b, h => by cases b <;> simp [eqV] at h; subst h; rfl
  | .int j a, b, h => by
    cases b <;> simp [eqV] at h
    obtain ⟨h1, h2⟩ := h
    rw [kcode_inj (Nat.eq_of_beq_eq_true h1), eqI_ok h2]
  | .str a, b, h => by cases b <;> simp [eqV] at h; rw [eqNL_ok h]
  | .sl n a f, b, h => by
    cases b <;> simp [eqV] at h
    obtain ⟨rfl, rfl, h3⟩ := h
    rw [eqVL_ok h3]
  | .agg a, b, h => by cases b <;> simp [eqV] at h; rw [eqVL_ok h]
  | .tup a, b, h => by cases b <;> simp [eqV] at h; rw [eqVL_ok h]
  | .clo f a, b, h => by
    cases b <;> simp [eqV] at h
    obtain ⟨rfl, h3⟩ := h
    rw [eqVL_ok h3]
  | .nilFunc, b, h => by cases b <;> simp [eqV] at h; rfl
  | .nilIface, b, h => by cases b <;> simp [eqV] at h; rfl
  | .iface t a, b, h => by
    cases b <;> simp [eqV] at h
    obtain ⟨rfl, h3⟩ := h
    rw [eqV_ok h3]
  | .ref a, b, h => by cases b <;> simp [eqV] at h; rw [eqVL_ok h]
  | .nilptr, b, h => by cases b <;> simp [eqV] at h; rfl
  | .nilmap, b, h => by cases b <;> simp [eqV] at h; rfl
  | .undef, b, h => by cases b <;> simp [eqV] at h
  | .own .., b, h => by cases b <;> simp [eqV] at h
  | .yield _, b, h => by cases b <;> simp [eqV] at h
  | .loc .., b, h => by cases b <;> simp [eqV] at h
  | .map _, b, h => by cases b <;> simp [eqV] at h
  | .res .., b, h => by cases b <;> simp [eqV] at h
theorem eqVL_ok : ∀ {a b : List AV}, eqVL a b = true → a = b
  | [], [], _ => rfl
  | a :: l, b :: m, h => by
    simp only [eqVL] at h
    split at h
    · rename_i h1
      rw [eqV_ok h1, eqVL_ok h]
    · cases h
  | [], _ :: _, h => by cases h
  | _ :: _, [], h => by cases h
end

/-- A table of arguments and answers: the last argument is looked at first. -/
def memoF : List (List AV × AV) → List AV → Option AV
  | [], _ => none
  | (a, r) :: l, x => if eqVL a.reverse x then some r else memoF l x
def memoQ (l : List (List AV × AV)) (x : List AV) : Option AV := memoF l x.reverse
theorem memoF_ok : ∀ {l : List (List AV × AV)} {x : List AV} {r : AV}, memoF l x = some r → (x.reverse, r) ∈ l
  | (a, r0) :: l, x, r, h => by
    simp only [memoF] at h
    split at h
    · rename_i h1
      cases h
      rw [← eqVL_ok h1, List.reverse_reverse]; exact List.mem_cons_self ..
    · exact List.mem_cons_of_mem _ (memoF_ok h)
theorem memoQ_ok {l : List (List AV × AV)} {x : List AV} {r : AV} (h : memoQ l x = some r) : (x, r) ∈ l := by
  have := memoF_ok h
  rwa [List.reverse_reverse] at this

/-- Does a call answer so? -/
def saysR (x : Option (AV × Heap × Acc)) (r : AV) : Bool := match x with
  | some (v, _, _) => eqV v r
  | none => false
theorem saysR_ok {x : Option (AV × Heap × Acc)} {r : AV} (h : saysR x r = true) : ∃ H acc, x = some (r, H, acc) := by
  unfold saysR at h
  split at h
  · rw [eqV_ok h]; exact ⟨_, _, rfl⟩
  · cases h
end Go.Px
