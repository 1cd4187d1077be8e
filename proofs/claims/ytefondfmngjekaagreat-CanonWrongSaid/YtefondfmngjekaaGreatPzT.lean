/- Heaps that are looked up quickly. -/
import Derived.Test.YtefondfmngjekaaGreatPzA
set_option linter.unusedVariables false
set_option linter.unusedSimpArgs false
namespace Go.Px
open Go

inductive Tr where
  | lf
  | nd (o : AO) (l r : Tr)

def Tr.get : Tr → Nat → Option AO
  | .lf, _ => none
  | .nd o _ _, 0 => some o
  | .nd _ l r, i + 1 => if i % 2 = 0 then l.get (i / 2) else r.get (i / 2)
def Tr.ins : Tr → Nat → AO → Tr
  | .lf, 0, o => .nd o .lf .lf
  | .lf, _ + 1, _ => .lf
  | .nd _ l r, 0, o => .nd o l r
  | .nd p l r, i + 1, o => if i % 2 = 0 then .nd p (l.ins (i / 2) o) r else .nd p l (r.ins (i / 2) o)

def Tr.full (t : Tr) (n : Nat) : Prop := ∀ i, i < n → ∃ o, t.get i = some o

theorem Tr.ins_get_ne : ∀ (t : Tr) (i j : Nat) (o : AO), i ≠ j → (t.ins i o).get j = t.get j
  | .lf, 0, 0, o, h => absurd rfl h
  | .lf, 0, j + 1, o, h => by simp [Tr.ins, Tr.get]
  | .lf, i + 1, j, o, h => by simp [Tr.ins]
  | .nd p l r, 0, 0, o, h => absurd rfl h
  | .nd p l r, 0, j + 1, o, h => by simp [Tr.ins, Tr.get]
  | .nd p l r, i + 1, 0, o, h => by
    simp only [Tr.ins]
    split <;> simp [Tr.get]
  | .nd p l r, i + 1, j + 1, o, h => by
    simp only [Tr.ins]
    by_cases hi : i % 2 = 0
    · rw [if_pos hi]
      simp only [Tr.get]
      by_cases hj : j % 2 = 0
      · rw [if_pos hj, if_pos hj]; exact Tr.ins_get_ne l _ _ o (by omega)
      · rw [if_neg hj, if_neg hj]
    · rw [if_neg hi]
      simp only [Tr.get]
      by_cases hj : j % 2 = 0
      · rw [if_pos hj, if_pos hj]
      · rw [if_neg hj, if_neg hj]; exact Tr.ins_get_ne r _ _ o (by omega)

theorem Tr.ins_get : ∀ (t : Tr) (n : Nat) (o : AO), t.full n → (t.ins n o).get n = some o
  | .lf, 0, o, h => by simp [Tr.ins, Tr.get]
  | .lf, n + 1, o, h => by
    obtain ⟨p, hp⟩ := h 0 (by omega)
    simp [Tr.get] at hp
  | .nd p l r, 0, o, h => by simp [Tr.ins, Tr.get]
  | .nd p l r, n + 1, o, h => by
    simp only [Tr.ins]
    by_cases hn : n % 2 = 0
    · rw [if_pos hn]
      simp only [Tr.get, if_pos hn]
      refine Tr.ins_get l _ o fun i hi => ?_
      obtain ⟨q, hq⟩ := h (2 * i + 1) (by omega)
      simp only [Tr.get] at hq
      rw [if_pos (by omega), show 2 * i / 2 = i by omega] at hq
      exact ⟨q, hq⟩
    · rw [if_neg hn]
      simp only [Tr.get, if_neg hn]
      refine Tr.ins_get r _ o fun i hi => ?_
      obtain ⟨q, hq⟩ := h (2 * i + 2) (by omega)
      simp only [Tr.get] at hq
      rw [if_neg (by omega), show (2 * i + 1) / 2 = i by omega] at hq
      exact ⟨q, hq⟩

theorem Tr.ins_ins : ∀ (t : Tr) (i : Nat) (o p : AO), (t.ins i p).ins i o = t.ins i o
  | .lf, 0, o, p => by simp [Tr.ins]
  | .lf, i + 1, o, p => by simp [Tr.ins]
  | .nd q l r, 0, o, p => by simp [Tr.ins]
  | .nd q l r, i + 1, o, p => by
    simp only [Tr.ins]
    by_cases hi : i % 2 = 0
    · simp only [if_pos hi, Tr.ins]; rw [Tr.ins_ins l]
    · simp only [if_neg hi, Tr.ins]; rw [Tr.ins_ins r]

theorem Tr.ins_comm : ∀ (t : Tr) (i j : Nat) (o p q : AO), i ≠ j → t.get i = some q → (t.ins j p).ins i o = (t.ins i o).ins j p
  | .lf, i, j, o, p, q, h, hq => by simp [Tr.get] at hq
  | .nd s l r, 0, 0, o, p, q, h, hq => absurd rfl h
  | .nd s l r, 0, j + 1, o, p, q, h, hq => by
    simp only [Tr.ins]
    split <;> simp [Tr.ins]
  | .nd s l r, i + 1, 0, o, p, q, h, hq => by
    simp only [Tr.ins]
    split <;> simp [Tr.ins]
  | .nd s l r, i + 1, j + 1, o, p, q, h, hq => by
    simp only [Tr.get] at hq
    simp only [Tr.ins]
    by_cases hi : i % 2 = 0 <;> by_cases hj : j % 2 = 0
    · rw [if_pos hi] at hq
      simp only [if_pos hi, if_pos hj, Tr.ins]
      rw [Tr.ins_comm l _ _ o p q (by omega) hq]
    · simp only [if_pos hi, if_neg hj, Tr.ins]
    · simp only [if_neg hi, if_pos hj, Tr.ins]
    · rw [if_neg hi] at hq
      simp only [if_neg hi, if_neg hj, Tr.ins]
      rw [Tr.ins_comm r _ _ o p q (by omega) hq]

structure TH where
  n : Nat
  t : Tr

def TH.get (T : TH) (i : Nat) : Option AO := T.t.get i
def TH.push (T : TH) (o : AO) : TH := ⟨T.n + 1, T.t.ins T.n o⟩
def TH.set (T : TH) (i : Nat) (o : AO) : TH := if i < T.n then ⟨T.n, T.t.ins i o⟩ else T
def TH.deads : Nat → TH → TH
  | 0, T => T
  | n + 1, T => TH.deads n (T.push .dead)
def TH.nil : TH := ⟨0, .lf⟩

/-- The same heap. -/
def rep (H : Heap) : TH := H.foldl TH.push .nil

theorem rep_push (H : Heap) (o : AO) : rep (H ++ [o]) = (rep H).push o := by simp [rep]
theorem snoc_ind {P : Heap → Prop} (h0 : P []) (h1 : ∀ H o, P H → P (H ++ [o])) (H : Heap) : P H := by
  have : ∀ H : Heap, P H.reverse := fun H => by
    induction H with
    | nil => exact h0
    | cons o H ih => rw [List.reverse_cons]; exact h1 _ o ih
  simpa using this H.reverse
theorem rep_n (H : Heap) : (rep H).n = H.length := by
  induction H using snoc_ind with
  | h0 => rfl
  | h1 H o ih => rw [rep_push]; simp [TH.push, ih]
theorem rep_get (H : Heap) : ∀ i, (rep H).get i = H[i]? := by
  induction H using snoc_ind with
  | h0 => intro i; simp [rep, TH.get, TH.nil, Tr.get]
  | h1 H o ih =>
    intro i
    rw [rep_push]
    by_cases hi : i = H.length
    · subst hi
      simp only [TH.push, TH.get, rep_n]
      rw [Tr.ins_get]
      · simp
      · intro j hj
        exact ⟨H[j], by rw [← List.getElem?_eq_getElem hj]; exact ih j⟩
    · simp only [TH.push, TH.get, rep_n]
      rw [Tr.ins_get_ne _ _ _ _ (fun h => hi h.symm)]
      rw [show (rep H).t.get i = H[i]? from ih i]
      rcases Nat.lt_or_ge i H.length with h | h
      · rw [List.getElem?_append_left h]
      · rw [List.getElem?_eq_none h, List.getElem?_eq_none (by simp; omega)]
theorem rep_ins (H : Heap) (o : AO) : ∀ i, i < H.length → rep (H.set i o) = ⟨H.length, (rep H).t.ins i o⟩ := by
  induction H using snoc_ind with
  | h0 => intro i hi; simp at hi
  | h1 H p ih =>
    intro i hi
    by_cases h : i = H.length
    · subst h
      rw [show (H ++ [p]).set H.length o = H ++ [o] by simp]
      rw [rep_push, rep_push]
      simp only [TH.push, rep_n, Tr.ins_ins, List.length_append, List.length_singleton]
    · have h2 : i < H.length := by simp at hi; omega
      rw [List.set_append_left _ _ h2, rep_push, rep_push, ih i h2]
      simp only [TH.push, rep_n, List.length_append, List.length_singleton]
      rw [Tr.ins_comm _ i H.length o p H[i] h]
      rw [show (rep H).t.get i = H[i]? from rep_get H i, List.getElem?_eq_getElem h2]
theorem rep_set (H : Heap) (i : Nat) (o : AO) : (rep H).set i o = rep (H.set i o) := by
  unfold TH.set
  rw [rep_n]
  split
  · rename_i h; rw [rep_ins H o i h]
  · rename_i h; rw [List.set_eq_of_length_le (by omega)]
theorem rep_deads : ∀ (n : Nat) (H : Heap), TH.deads n (rep H) = rep (H ++ List.replicate n .dead)
  | 0, H => by simp [TH.deads]
  | n + 1, H => by
    simp only [TH.deads, ← rep_push]
    rw [rep_deads n]
    simp [List.replicate_succ]

/-- The list of it. -/
def tlG (t : Tr) : Nat → Nat → Heap
  | 0, _ => []
  | n + 1, i => (t.get i).getD .dead :: tlG t n (i + 1)
def TH.tl (T : TH) : Heap := tlG T.t T.n 0
theorem tlG_get (t : Tr) : ∀ (n i j : Nat), (tlG t n i)[j]? = if j < n then some ((t.get (i + j)).getD .dead) else none
  | 0, i, j => by simp [tlG]
  | n + 1, i, 0 => by simp [tlG]
  | n + 1, i, j + 1 => by
    simp only [tlG, List.getElem?_cons_succ, tlG_get t n (i + 1) j]
    rw [show i + 1 + j = i + (j + 1) by omega]
    by_cases h : j < n
    · rw [if_pos h, if_pos (by omega)]
    · rw [if_neg h, if_neg (by omega)]
theorem tl_rep (H : Heap) : (rep H).tl = H := by
  apply List.ext_getElem?
  intro j
  unfold TH.tl
  rw [tlG_get, rep_n]
  split
  · rename_i h
    rw [Nat.zero_add, show (rep H).t.get j = H[j]? from rep_get H j, List.getElem?_eq_getElem h]; rfl
  · rename_i h; rw [List.getElem?_eq_none (by omega)]

/-! ### in one breath -/
section z
variable {β : Type}
noncomputable def getTZ (t : Tr) : Nat → (AO → β) → β → β :=
  @Tr.rec (fun _ => Nat → (AO → β) → β → β) (fun _ _ d => d)
    (fun o _ _ ihl ihr i c d => @Nat.rec (fun _ => β) (c o) (fun m _ => @Nat.rec (fun _ => β) (ihl (Nat.div m 2) c d) (fun _ _ => ihr (Nat.div m 2) c d) (Nat.mod m 2)) i) t
theorem mod2 {β : Type} (m : Nat) (a b : β) : (@Nat.rec (fun _ => β) a (fun _ _ => b) (Nat.mod m 2) : β) = if m % 2 = 0 then a else b := by
  show (@Nat.rec (fun _ => β) a (fun _ _ => b) (m % 2) : β) = _
  generalize m % 2 = r
  cases r with
  | zero => rfl
  | succ r => simp
theorem getTZ_eq : ∀ (t : Tr) (i : Nat) (c : AO → β) (d : β), getTZ t i c d = match t.get i with
    | some o => c o
    | none => d
  | .lf, i, c, d => rfl
  | .nd o l r, 0, c, d => rfl
  | .nd o l r, m + 1, c, d => by
    show (@Nat.rec (fun _ => β) (getTZ l (Nat.div m 2) c d) (fun _ _ => getTZ r (Nat.div m 2) c d) (Nat.mod m 2) : β) = _
    rw [mod2, getTZ_eq l, getTZ_eq r]
    simp only [Tr.get]
    split <;> rfl
noncomputable def insTZ (t : Tr) : Nat → AO → (Tr → β) → β :=
  @Tr.rec (fun _ => Nat → AO → (Tr → β) → β) (fun i o c => @Nat.rec (fun _ => β) (c (.nd o .lf .lf)) (fun _ _ => c .lf) i)
    (fun p l r ihl ihr i o c => @Nat.rec (fun _ => β) (c (.nd o l r)) (fun m _ => @Nat.rec (fun _ => β) (ihl (Nat.div m 2) o fun l => c (.nd p l r)) (fun _ _ => ihr (Nat.div m 2) o fun r => c (.nd p l r)) (Nat.mod m 2)) i) t
theorem insTZ_eq : ∀ (t : Tr) (i : Nat) (o : AO) (c : Tr → β), insTZ t i o c = c (t.ins i o)
  | .lf, 0, o, c => rfl
  | .lf, i + 1, o, c => rfl
  | .nd p l r, 0, o, c => rfl
  | .nd p l r, m + 1, o, c => by
    show (@Nat.rec (fun _ => β) (insTZ l (Nat.div m 2) o fun l => c (.nd p l r)) (fun _ _ => insTZ r (Nat.div m 2) o fun r => c (.nd p l r)) (Nat.mod m 2) : β) = _
    rw [mod2, insTZ_eq l, insTZ_eq r]
    simp only [Tr.ins]
    split <;> rfl

noncomputable def getT (T : TH) (i : Nat) (c : AO → β) (d : β) : β := @TH.rec (fun _ => β) (fun _ t => getTZ t i c d) T
theorem getT_eq (T : TH) (i : Nat) (c : AO → β) (d : β) : getT T i c d = match T.get i with
    | some o => c o
    | none => d := getTZ_eq T.t i c d
noncomputable def setT (T : TH) (i : Nat) (o : AO) (c : TH → β) : β := @TH.rec (fun _ => β) (fun n t => ifZ (Nat.blt i n) (insTZ t i o fun t => c ⟨n, t⟩) (c ⟨n, t⟩)) T
theorem setT_eq (T : TH) (i : Nat) (o : AO) (c : TH → β) : setT T i o c = c (T.set i o) := by
  show ifZ (Nat.blt i T.n) (insTZ T.t i o fun t => c ⟨T.n, t⟩) (c ⟨T.n, T.t⟩) = _
  rw [ifZ_eq, insTZ_eq]
  unfold TH.set
  by_cases h : i < T.n
  · rw [if_pos (show Nat.blt i T.n = true from Nat.ble_eq_true_of_le h), if_pos h]
  · rw [if_neg (show ¬ (Nat.blt i T.n = true) from fun h2 => h (Nat.le_of_ble_eq_true h2)), if_neg h]
noncomputable def pushT (T : TH) (o : AO) (c : TH → β) : β := @TH.rec (fun _ => β) (fun n t => insTZ t n o fun t => natZ (Nat.add n 1) fun n => c ⟨n, t⟩) T
theorem pushT_eq (T : TH) (o : AO) (c : TH → β) : pushT T o c = c (T.push o) := by
  show insTZ T.t T.n o (fun t => natZ (Nat.add T.n 1) fun n => c ⟨n, t⟩) = _
  rw [insTZ_eq, natZ_eq]; rfl
noncomputable def lenT (T : TH) (c : Nat → β) : β := @TH.rec (fun _ => β) (fun n _ => natZ n c) T
theorem lenT_eq (T : TH) (c : Nat → β) : lenT T c = c T.n := natZ_eq T.n c
noncomputable def deadsT (n : Nat) : TH → (TH → β) → β := @Nat.rec (fun _ => TH → (TH → β) → β) (fun T c => c T) (fun _ ih T c => pushT T .dead fun T => ih T c) n
theorem deadsT_eq : ∀ (n : Nat) (T : TH) (c : TH → β), deadsT n T c = c (TH.deads n T)
  | 0, T, c => rfl
  | n + 1, T, c => by
    show pushT T .dead (fun T => deadsT n T c) = _
    rw [pushT_eq, deadsT_eq n]; rfl
/-- A name that was kept for it, or a new one. -/
def TH.lay (slot : Option Nat) (T : TH) (o : AO) : Nat × TH := match slot with
  | some nm => (nm, T.set nm o)
  | none => (T.n, T.push o)
theorem rep_lay (slot : Option Nat) (H : Heap) (o : AO) : (rep H).lay slot o = ((layNew slot H o).1, rep (layNew slot H o).2) := by
  cases slot with
  | none => simp [TH.lay, layNew, rep_n, rep_push]
  | some nm => simp [TH.lay, layNew, rep_set]
noncomputable def layT (slot : Option Nat) (T : TH) (o : AO) (c : Nat → TH → β) : β := match slot with
  | some nm => setT T nm o fun T => c nm T
  | none => lenT T fun n => pushT T o fun T => c n T
theorem layT_eq (slot : Option Nat) (T : TH) (o : AO) (c : Nat → TH → β) : layT slot T o c = c (T.lay slot o).1 (T.lay slot o).2 := by
  cases slot with
  | none => simp only [layT, lenT_eq, pushT_eq]; rfl
  | some nm => simp only [layT, setT_eq]; rfl
noncomputable def rowT (d : β) (T : TH) (j : Nat) (c : List AV → β) : β := getT T j (fun o => @AO.rec (fun _ => β) d (fun _ cs _ => c cs) (fun _ _ _ _ _ _ => d) (fun _ _ _ _ _ => d) (fun _ _ _ _ => d) o) d
theorem rowT_eq (d : β) (T : TH) (j : Nat) (c : List AV → β) : rowT d T j c = match T.get j with
    | some (.row _ cs _) => c cs
    | _ => d := by
  unfold rowT
  rw [getT_eq]
  cases T.get j with
  | none => rfl
  | some o => cases o <;> rfl
end z
noncomputable def TH.rd (T : TH) (i : Nat) : Option AO := getT T i some none
theorem rd_eq (T : TH) : T.rd = T.get := by
  funext i
  unfold TH.rd
  rw [getT_eq]
  cases T.get i <;> rfl
theorem rd_rep (H : Heap) : (rep H).rd = fun i => H[i]? := by
  rw [rd_eq]; funext i; exact rep_get H i

/-! ### what reads a heap by its names -/
def loadG (E : Env) (rd : Nat → Option AO) (t : TypeId) (p : AV) : Option (AV × Acc) := do
  let i ← E.ty t
  match p with
  | .ref cs => if i.size ≤ cs.length then return (← mkV i.desc.isAgg (cs.take i.size), Acc.none) else Option.none
  | .loc nm off =>
    match rd nm with
    | some (.row e cs _) => if off + i.size ≤ cs.length then return (← mkV i.desc.isAgg ((cs.drop off).take i.size), Acc.read nm) else Option.none
    | _ => Option.none
  | _ => Option.none
theorem loadG_eq (E : Env) (H : Heap) (t : TypeId) (p : AV) : loadG E (fun i => H[i]?) t p = loadA E H t p := rfl
def storeG (E : Env) (rd : Nat → Option AO) (t : TypeId) (p v : AV) : Option (Eff × Acc) := do
  let i ← E.ty t
  match p with
  | .loc nm off =>
    match rd nm with
    | some (.row e cs false) =>
      if (cellsOf v).length = i.size ∧ off + i.size ≤ cs.length ∧ i.size ≠ 0 then return (.put nm (.row e (lay cs off (cellsOf v)) false) (.tup []), ⟨[], [nm], false⟩) else Option.none
    | _ => Option.none
  | _ => Option.none
theorem storeG_eq (E : Env) (H : Heap) (t : TypeId) (p v : AV) : storeG E (fun i => H[i]?) t p v = storeA E H t p v := rfl
def contentG (rd : Nat → Option AO) (sz : Nat) : AV → Option (Nat × List AV × Acc)
  | .sl n cs _ => if cs.length = n * sz then some (n, cs, Acc.none) else Option.none
  | .own nm off n sz' =>
    match rd nm with
    | some (.row e cs _) => if sz' = sz ∧ off + n * sz ≤ cs.length then some (n, (cs.drop off).take (n * sz), Acc.read nm) else Option.none
    | _ => Option.none
  | .str s => if sz = 1 then some (s.length, s.map byteV, Acc.none) else Option.none
  | _ => Option.none
theorem contentG_eq (H : Heap) (sz : Nat) (x : AV) : contentG (fun i => H[i]?) sz x = contentA H sz x := by cases x <;> rfl
def appendG0 (E : Env) (rd : Nat → Option AO) (t : TypeId) (s x : AV) : Option (Eff × Acc) := do
  let i ← E.ty t
  let .slice e := i.desc | Option.none
  let ei ← E.ty e
  let (k, new, acc) ← contentG rd ei.size x
  if ei.size = 0 then Option.none else
  if k = 0 then
    match s with
    | .sl n cs f => return (.val (.sl n cs f), acc)
    | .own nm off n sz => return (.val (.own nm off n sz), acc)
    | _ => Option.none
  else match s with
    | .sl n cs true =>
      if cs.length = n * ei.size ∧ (n + k) * ei.bytes ≤ mostBytes ∧ n + k ≤ mostBytes then return (.new (.row e (cs ++ new) false) (fun nm => .own nm 0 (n + k) ei.size), acc) else Option.none
    | .own nm off n sz =>
      if sz ≠ ei.size then Option.none else
      match rd nm with
      | some (.row e' cs fr) =>
        if e' = e ∧ off + n * ei.size = cs.length ∧ (n + k) * ei.bytes ≤ mostBytes ∧ n + k ≤ mostBytes then
          return (.app nm (.row e (cs.drop off ++ new) fr) (n + k) ei.size, ⟨acc.rd, [nm], false⟩)
        else Option.none
      | _ => Option.none
    | _ => Option.none
theorem appendG0_eq (E : Env) (H : Heap) (t : TypeId) (s x : AV) : appendG0 E (fun i => H[i]?) t s x = appendA0 E H t s x := by
  unfold appendG0 appendA0
  simp only [contentG_eq]
  rfl
def appendG (E : Env) (rd : Nat → Option AO) (t : TypeId) (s x : AV) : Option (Eff × Acc) :=
  if countA x = 0 then appendG0 E rd t s x else
  match s with
  | .own nm off n sz => match rd nm with
    | some (.row e cs false) => if off + n * sz < cs.length then appendG0 E (fun i => if Nat.beq i nm then some (.row e (cs.take (off + n * sz)) false) else rd i) t s x else appendG0 E rd t s x
    | _ => appendG0 E rd t s x
  | _ => appendG0 E rd t s x
theorem set_rd (H : Heap) (nm : Nat) (o p : AO) (h : H[nm]? = some p) : (fun i => if Nat.beq i nm then some o else H[i]?) = fun i => (H.set nm o)[i]? := by
  have hl : nm < H.length := by
    rcases Nat.lt_or_ge nm H.length with h2 | h2
    · exact h2
    · rw [List.getElem?_eq_none h2] at h; cases h
  funext i
  by_cases hi : i = nm
  · subst hi
    rw [if_pos (Nat.beq_refl i), List.getElem?_set_self hl]
  · rw [if_neg (fun h2 => hi (Nat.eq_of_beq_eq_true h2)), List.getElem?_set_ne (fun h2 => hi h2.symm)]
theorem appendG_eq (E : Env) (H : Heap) (t : TypeId) (s x : AV) : appendG E (fun i => H[i]?) t s x = appendA E H t s x := by
  unfold appendG appendA
  by_cases hc : countA x = 0
  · rw [if_pos hc, if_pos hc, appendG0_eq]
  · rw [if_neg hc, if_neg hc]
    cases s with
    | own nm off n sz =>
      simp only
      cases hr : H[nm]? with
      | none => exact appendG0_eq E H t _ x
      | some o =>
        cases o with
        | row e cs fr =>
          cases fr with
          | true => exact appendG0_eq E H t _ x
          | false =>
            simp only
            split
            · rw [set_rd H nm _ _ hr, appendG0_eq]
            · exact appendG0_eq E H t _ x
        | _ => exact appendG0_eq E H t _ x
    | _ => exact appendG0_eq E H t _ x

def fzG (E : Env) (rd : Nat → Option AO) : Nat → AV → Option (AV × List Nat)
  | 0, _ => Option.none
  | k + 1, v =>
    match v with
    | .own nm off n sz =>
      match rd nm with
      | some (.row _ cs _) =>
        if off + n * sz ≤ cs.length then do
          let (l, ns) ← fzL (fzG E rd k) cs
          return (.sl n ((l.drop off).take (n * sz)) false, nm :: ns)
        else Option.none
      | _ => Option.none
    | .loc nm off =>
      match rd nm with
      | some (.row _ cs _) =>
        if off < cs.length then do
          let (l, ns) ← fzL (fzG E rd k) cs
          return (.ref (l.drop off), nm :: ns)
        else Option.none
      | _ => Option.none
    | .agg cs => do let (l, ns) ← fzL (fzG E rd k) cs; return (.agg l, ns)
    | .tup cs => do let (l, ns) ← fzL (fzG E rd k) cs; return (.tup l, ns)
    | .clo f cs => do let (l, ns) ← fzL (fzG E rd k) cs; return (.clo f l, ns)
    | .iface t x => do let (x, ns) ← fzG E rd k x; return (.iface t x, ns)
    | .yield _ | .map _ | .undef => Option.none
    | v => some (v, [])
theorem fzG_eq (E : Env) (H : Heap) : ∀ k, fzG E (fun i => H[i]?) k = fz E H k
  | 0 => by funext v; rfl
  | k + 1 => by
    funext v
    have ih := fzG_eq E H k
    cases v <;> simp only [fzG, fz, ih] <;> rfl
end Go.Px
