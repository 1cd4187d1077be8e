/- The faster machine in one breath: each piece of code is a function that takes what comes next; what it looks at it takes apart with the recursors themselves. -/
import Derived.Test.YtefondfmngjekaaGreatPyC
set_option linter.unusedVariables false
set_option linter.unusedSimpArgs false
namespace Go.Px
open Go

section apart
variable {β : Type}

noncomputable def nthZ (l : List AV) : Nat → (AV → β) → β :=
  @List.rec AV (fun _ => Nat → (AV → β) → β) (fun _ c => c .undef) (fun x _ ih j c => @Nat.rec (fun _ => β) (c x) (fun j _ => ih j c) j) l
theorem nthZ_eq : ∀ (l : List AV) (j : Nat) (c : AV → β), nthZ l j c = c (l.getD j .undef)
  | [], _, _ => rfl
  | _ :: _, 0, _ => rfl
  | x :: l, j + 1, c => by
    show nthZ l j c = _
    rw [nthZ_eq l j c]; simp

noncomputable def setZ (l : List AV) : Nat → AV → (List AV → β) → β :=
  @List.rec AV (fun _ => Nat → AV → (List AV → β) → β) (fun _ _ c => c []) (fun x t ih j v c => @Nat.rec (fun _ => β) (c (v :: t)) (fun j _ => ih j v fun t => c (x :: t)) j) l
theorem setZ_eq : ∀ (l : List AV) (j : Nat) (v : AV) (c : List AV → β), setZ l j v c = c (l.set j v)
  | [], _, _, _ => rfl
  | _ :: _, 0, _, _ => rfl
  | x :: l, j + 1, v, c => by
    show setZ l j v (fun t => c (x :: t)) = _
    rw [setZ_eq l j v]; rfl

noncomputable def gZ (o : O) (L V : List AV) (c : AV → β) : β :=
  @O.rec (fun _ => β) (fun i => nthZ L i c) (fun j => nthZ V j c) (fun x => c x) o
theorem gZ_eq (o : O) (L V : List AV) (c : AV → β) : gZ o L V c = c (gO L V o) := by
  cases o with
  | l i => exact nthZ_eq L i c
  | v j => exact nthZ_eq V j c
  | k x => rfl

noncomputable def gZs (os : List O) (L V : List AV) : (List AV → β) → β :=
  @List.rec O (fun _ => (List AV → β) → β) (fun c => c []) (fun o _ ih c => gZ o L V fun v => ih fun l => c (v :: l)) os
theorem gZs_eq : ∀ (os : List O) (L V : List AV) (c : List AV → β), gZs os L V c = c (os.map (gO L V))
  | [], _, _, _ => rfl
  | o :: os, L, V, c => by
    show gZ o L V (fun v => gZs os L V fun l => c (v :: l)) = _
    rw [gZ_eq, gZs_eq os]; rfl

noncomputable def ifZ (b : Bool) (t e : β) : β := @Bool.rec (fun _ => β) e t b
theorem ifZ_eq (b : Bool) (t e : β) : ifZ b t e = if b = true then t else e := by cases b <;> rfl
noncomputable def boolZ (b : Bool) (c : Bool → β) : β := @Bool.rec (fun _ => β) (c false) (c true) b
theorem boolZ_eq (b : Bool) (c : Bool → β) : boolZ b c = c b := by cases b <;> rfl
/-- A number in its normal form. -/
noncomputable def natZ (n : Nat) (c : Nat → β) : β := @Nat.rec (fun _ => β) (c 0) (fun m _ => c (Nat.succ m)) n
theorem natZ_eq (n : Nat) (c : Nat → β) : natZ n c = c n := by cases n <;> rfl

noncomputable def dropZ (l : List AV) : Nat → (List AV → β) → β :=
  @List.rec AV (fun _ => Nat → (List AV → β) → β) (fun _ c => c []) (fun x t ih j c => @Nat.rec (fun _ => β) (c (x :: t)) (fun j _ => ih j c) j) l
theorem dropZ_eq : ∀ (l : List AV) (j : Nat) (c : List AV → β), dropZ l j c = c (l.drop j)
  | [], j, c => by rw [List.drop_nil]; rfl
  | _ :: _, 0, _ => rfl
  | x :: l, j + 1, c => by
    show dropZ l j c = _
    rw [dropZ_eq l j c]; rfl

/-- The first 'n', if there are so many. -/
noncomputable def takeZ (n : Nat) (d : β) : List AV → (List AV → β) → β :=
  @Nat.rec (fun _ => List AV → (List AV → β) → β) (fun _ c => c []) (fun _ ih l c => @List.rec AV (fun _ => β) d (fun x t _ => ih t fun r => c (x :: r)) l) n
theorem takeZ_eq (d : β) : ∀ (n : Nat) (l : List AV) (c : List AV → β), takeZ n d l c = if n ≤ l.length then c (l.take n) else d
  | 0, l, c => by
    show c [] = _
    simp
  | n + 1, [], c => by
    show d = _
    simp
  | n + 1, x :: l, c => by
    show takeZ n d l (fun r => c (x :: r)) = _
    rw [takeZ_eq d n l]
    simp

noncomputable def boolCZ (v : AV) (t e d : β) : β := AV.casesOn (motive_1 := fun _ => β) v d (fun b => @Bool.rec (fun _ => β) e t b) (fun _ _ => d) (fun _ => d) (fun _ _ _ => d) (fun _ _ _ _ => d) (fun _ => d) (fun _ => d) (fun _ _ => d) (fun _ => d) d d (fun _ _ => d) (fun _ => d) (fun _ _ => d) d (fun _ => d) d (fun _ _ _ => d)
noncomputable def intCZ (v : AV) (c : IntKind → Int → β) (d : β) : β := AV.casesOn (motive_1 := fun _ => β) v d (fun _ => d) (fun k n => c k n) (fun _ => d) (fun _ _ _ => d) (fun _ _ _ _ => d) (fun _ => d) (fun _ => d) (fun _ _ => d) (fun _ => d) d d (fun _ _ => d) (fun _ => d) (fun _ _ => d) d (fun _ => d) d (fun _ _ _ => d)
noncomputable def ptrCZ (v : AV) (r : List AV → β) (l : Nat → Nat → β) (d : β) : β := AV.casesOn (motive_1 := fun _ => β) v d (fun _ => d) (fun _ _ => d) (fun _ => d) (fun _ _ _ => d) (fun _ _ _ _ => d) (fun _ => d) (fun _ => d) (fun _ _ => d) (fun _ => d) d d (fun _ _ => d) (fun cs => r cs) (fun nm off => l nm off) d (fun _ => d) d (fun _ _ _ => d)
noncomputable def slCZ (v : AV) (s : Nat → List AV → Bool → β) (o : Nat → Nat → Nat → Nat → β) (d : β) : β := AV.casesOn (motive_1 := fun _ => β) v d (fun _ => d) (fun _ _ => d) (fun _ => d) (fun n cs f => s n cs f) (fun nm off n sz => o nm off n sz) (fun _ => d) (fun _ => d) (fun _ _ => d) (fun _ => d) d d (fun _ _ => d) (fun _ => d) (fun _ _ => d) d (fun _ => d) d (fun _ _ _ => d)
noncomputable def strCZ (v : AV) (s : List Nat → β) (d : β) : β := AV.casesOn (motive_1 := fun _ => β) v d (fun _ => d) (fun _ _ => d) (fun l => s l) (fun _ _ _ => d) (fun _ _ _ _ => d) (fun _ => d) (fun _ => d) (fun _ _ => d) (fun _ => d) d d (fun _ _ => d) (fun _ => d) (fun _ _ => d) d (fun _ => d) d (fun _ _ _ => d)
noncomputable def tupCZ (v : AV) (s : List AV → β) (d : β) : β := AV.casesOn (motive_1 := fun _ => β) v d (fun _ => d) (fun _ _ => d) (fun _ => d) (fun _ _ _ => d) (fun _ _ _ _ => d) (fun _ => d) (fun l => s l) (fun _ _ => d) (fun _ => d) d d (fun _ _ => d) (fun _ => d) (fun _ _ => d) d (fun _ => d) d (fun _ _ _ => d)
noncomputable def aggCZ (v : AV) (s : List AV → β) (d : β) : β := AV.casesOn (motive_1 := fun _ => β) v d (fun _ => d) (fun _ _ => d) (fun _ => d) (fun _ _ _ => d) (fun _ _ _ _ => d) (fun l => s l) (fun _ => d) (fun _ _ => d) (fun _ => d) d d (fun _ _ => d) (fun _ => d) (fun _ _ => d) d (fun _ => d) d (fun _ _ _ => d)
noncomputable def grdZ (v : AV) (want : Bool) (run skip d : β) : β := AV.casesOn (motive_1 := fun _ => β) v d (fun b => @Bool.rec (fun _ => β) (@Bool.rec (fun _ => β) run skip want) (@Bool.rec (fun _ => β) skip run want) b) (fun _ _ => d) (fun _ => d) (fun _ _ _ => d) (fun _ _ _ _ => d) (fun _ => d) (fun _ => skip) (fun _ _ => d) (fun _ => d) d d (fun _ _ => d) (fun _ => d) (fun _ _ => d) d (fun _ => d) d (fun _ _ _ => d)

theorem boolCZ_eq (v : AV) (t e d : β) : boolCZ v t e d = match v with
  | .bool true => t
  | .bool false => e
  | _ => d := by cases v <;> first | rfl | (rename_i b; cases b <;> rfl)
theorem intCZ_eq (v : AV) (c : IntKind → Int → β) (d : β) : intCZ v c d = match v with
  | .int k n => c k n
  | _ => d := by cases v <;> rfl
theorem ptrCZ_eq (v : AV) (r : List AV → β) (l : Nat → Nat → β) (d : β) : ptrCZ v r l d = match v with
  | .ref cs => r cs
  | .loc nm off => l nm off
  | _ => d := by cases v <;> rfl
theorem slCZ_eq (v : AV) (s : Nat → List AV → Bool → β) (o : Nat → Nat → Nat → Nat → β) (d : β) : slCZ v s o d = match v with
  | .sl n cs f => s n cs f
  | .own nm off n sz => o nm off n sz
  | _ => d := by cases v <;> rfl
theorem strCZ_eq (v : AV) (s : List Nat → β) (d : β) : strCZ v s d = match v with
  | .str l => s l
  | _ => d := by cases v <;> rfl
theorem tupCZ_eq (v : AV) (s : List AV → β) (d : β) : tupCZ v s d = match v with
  | .tup l => s l
  | _ => d := by cases v <;> rfl
theorem aggCZ_eq (v : AV) (s : List AV → β) (d : β) : aggCZ v s d = match v with
  | .agg l => s l
  | _ => d := by cases v <;> rfl
theorem grdZ_eq (v : AV) (want : Bool) (run skip d : β) : grdZ v want run skip d = match v with
  | .bool b => if (b == want) = true then run else skip
  | .tup _ => skip
  | _ => d := by cases v <;> first | rfl | (rename_i b; cases b <;> cases want <;> rfl)

/-! ### numbers -/
def kcode (k : IntKind) : Nat := IntKind.casesOn k 0 1 2 3 4 5 6 7
theorem kcode_inj {a b : IntKind} (h : kcode a = kcode b) : a = b := by cases a <;> cases b <;> first | rfl | (revert h; decide)
noncomputable def sameKZ (a b : IntKind) (t e : β) : β := ifZ (Nat.beq (kcode a) (kcode b)) t e
theorem sameKZ_eq (a b : IntKind) (t e : β) : sameKZ a b t e = if a = b then t else e := by
  unfold sameKZ
  rw [ifZ_eq]
  by_cases h : a = b
  · subst h; simp
  · have : Nat.beq (kcode a) (kcode b) = false := by
      cases hb : Nat.beq (kcode a) (kcode b) with
      | false => rfl
      | true => exact absurd (kcode_inj (Nat.eq_of_beq_eq_true hb)) h
    simp [this, h]

/-- Below it a number needs no wrapping. -/
def klim (k : IntKind) : Nat := IntKind.casesOn k 128 32768 2147483648 9223372036854775808 256 65536 4294967296 18446744073709551616
def ksig (k : IntKind) : Bool := IntKind.casesOn k true true true true false false false false
theorem wrap_nat {k : IntKind} {m : Nat} (h : m < klim k) : k.wrap (.ofNat m) = .ofNat m := by
  cases k <;> simp only [klim] at h <;> simp only [IntKind.wrap, IntKind.bits, IntKind.signed, Nat.reduceSub, Int.reducePow, Int.ofNat_eq_natCast, Bool.true_and, Bool.false_and, Bool.false_eq_true, if_false]
  all_goals first
    | omega
    | (split
       · rename_i h2
         have h2 := of_decide_eq_true h2
         omega
       · omega)
theorem wrap_neg {k : IntKind} {m : Nat} (hs : ksig k = true) (h : m < klim k) : k.wrap (.negSucc m) = .negSucc m := by
  have e : Int.negSucc m = -(m : Int) - 1 := by omega
  rw [e]
  cases k <;> simp only [ksig, Bool.false_eq_true] at hs
  all_goals simp only [klim] at h
  all_goals simp only [IntKind.wrap, IntKind.bits, IntKind.signed, Nat.reduceSub, Int.reducePow, Bool.true_and]
  all_goals (split
             · rename_i h2
               have h2 := of_decide_eq_true h2
               omega
             · rename_i h2
               have h2 := of_decide_eq_false (Bool.eq_false_iff.2 h2)
               omega)

noncomputable def wrapZ (k : IntKind) (n : Int) (c : Int → β) : β :=
  Int.casesOn n (fun m => natZ m fun m => ifZ (Nat.blt m (klim k)) (c (.ofNat m)) (fI (k.wrap (.ofNat m)) c))
    (fun m => natZ m fun m => ifZ (ksig k) (ifZ (Nat.blt m (klim k)) (c (.negSucc m)) (fI (k.wrap (.negSucc m)) c)) (fI (k.wrap (.negSucc m)) c))
theorem wrapZ_eq (k : IntKind) (n : Int) (c : Int → β) : wrapZ k n c = c (k.wrap n) := by
  cases n with
  | ofNat m =>
    show natZ m (fun m => ifZ (Nat.blt m (klim k)) (c (.ofNat m)) (fI (k.wrap (.ofNat m)) c)) = _
    rw [natZ_eq, ifZ_eq]
    split
    · rename_i h; rw [wrap_nat (Nat.le_of_ble_eq_true h)]
    · rw [fI_eq]
  | negSucc m =>
    show natZ m (fun m => ifZ (ksig k) (ifZ (Nat.blt m (klim k)) (c (.negSucc m)) (fI (k.wrap (.negSucc m)) c)) (fI (k.wrap (.negSucc m)) c)) = _
    rw [natZ_eq, ifZ_eq, ifZ_eq]
    split
    · rename_i hs
      split
      · rename_i h; rw [wrap_neg hs (Nat.le_of_ble_eq_true h)]
      · rw [fI_eq]
    · rw [fI_eq]

noncomputable def addZ (a b : Int) (c : Int → β) : β :=
  Int.casesOn a (fun m => Int.casesOn b (fun n => natZ (Nat.add m n) fun r => c (.ofNat r)) (fun n => fI (.ofNat m + .negSucc n) c)) (fun m => fI (.negSucc m + b) c)
theorem addZ_eq (a b : Int) (c : Int → β) : addZ a b c = c (a + b) := by
  cases a with
  | ofNat m =>
    cases b with
    | ofNat n =>
      show natZ (Nat.add m n) (fun r => c (.ofNat r)) = _
      rw [natZ_eq]; rfl
    | negSucc n => exact fI_eq _ _
  | negSucc m => exact fI_eq _ _

noncomputable def ltZ (a b : Int) (c : Bool → β) : β :=
  Int.casesOn a (fun m => Int.casesOn b (fun n => boolZ (Nat.blt m n) c) (fun _ => c false)) (fun m => boolZ (decide (Int.negSucc m < b)) c)
theorem ltZ_eq (a b : Int) (c : Bool → β) : ltZ a b c = c (decide (a < b)) := by
  cases a with
  | ofNat m =>
    cases b with
    | ofNat n =>
      show boolZ (Nat.blt m n) c = _
      rw [boolZ_eq]
      congr 1
      by_cases h : m < n
      · rw [show Nat.blt m n = true from Nat.ble_eq_true_of_le h]
        simp [h]
      · rw [show Nat.blt m n = false from by
          cases hb : Nat.blt m n with
          | false => rfl
          | true => exact absurd (Nat.le_of_ble_eq_true hb) h]
        simp [h]
    | negSucc n =>
      show c false = _
      have : ¬ ((Int.ofNat m) < Int.negSucc n) := by
        have h1 : Int.ofNat m = (m : Int) := rfl
        omega
      rw [decide_eq_false this]
  | negSucc m => exact boolZ_eq _ _

noncomputable def eqlZ (a b : Int) (c : Bool → β) : β :=
  Int.casesOn a (fun m => Int.casesOn b (fun n => boolZ (Nat.beq m n) c) (fun _ => c false)) (fun m => boolZ (Int.negSucc m == b) c)
theorem eqlZ_eq (a b : Int) (c : Bool → β) : eqlZ a b c = c (a == b) := by
  cases a with
  | ofNat m =>
    cases b with
    | ofNat n =>
      show boolZ (Nat.beq m n) c = _
      rw [boolZ_eq]
      congr 1
      by_cases h : m = n
      · subst h; simp
      · have h2 : ¬ ((Int.ofNat m) = Int.ofNat n) := fun e => h (Int.ofNat.inj e)
        rw [show Nat.beq m n = false from by
          cases hb : Nat.beq m n with
          | false => rfl
          | true => exact absurd (Nat.eq_of_beq_eq_true hb) h]
        exact (beq_eq_false_iff_ne.2 h2).symm
    | negSucc n => rfl
  | negSucc m => exact boolZ_eq _ _
end apart
end Go.Px
