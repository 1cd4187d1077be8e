/- The faster machine: operations, code; what it reckons the abstract machine reckons. -/
import Derived.Test.YtefondfmngjekaaGreatPyA
set_option linter.unusedVariables false
set_option linter.unusedSimpArgs false
namespace Go.Px
open Go

structure FS where
  L : List AV
  V : List AV
  H : Heap
  deriving Inhabited

inductive FD where
  | none
  | push
  | var (j : Nat)
  deriving Inhabited

structure FO where
  fa : FA
  dst : FD
  g : Option (O × Bool)
  light : Bool
  idx : Nat
  sl : Option Nat
  deriving Inhabited

def FO.slot (fo : FO) (n0 : Nat) : Option Nat := match fo.sl with
  | some r => some (n0 + r)
  | Option.none => Option.none

section run
variable {α : Type}
def setK : List AV → Nat → AV → (List AV → α) → α
  | [], _, _, c => c []
  | _ :: l, 0, v, c => c (v :: l)
  | x :: l, j + 1, v, c => setK l j v fun l => c (x :: l)
theorem setK_eq : ∀ (l : List AV) (j : Nat) (v : AV) (c : List AV → α), setK l j v c = c (l.set j v)
  | [], _, _, _ => rfl
  | _ :: _, 0, _, _ => rfl
  | x :: l, j + 1, v, c => by simp only [setK, setK_eq l j, List.set]

def putF (d : FD) (v : AV) (L V : List AV) (c : List AV → List AV → α) : α := match d with
  | .none => c L V
  | .push => c (v :: L) V
  | .var j => setK V j v fun V => c L V
def putFL : FD → AV → List AV → List AV
  | .push, v, L => v :: L
  | _, _, L => L
def putFV : FD → AV → List AV → List AV
  | .var j, v, V => V.set j v
  | _, _, V => V
theorem putF_eq (d : FD) (v : AV) (L V : List AV) (c : List AV → List AV → α) : putF d v L V c = c (putFL d v L) (putFV d v V) := by
  cases d <;> simp [putF, putFL, putFV, setK_eq]
end run

def wantedF (g : Option (O × Bool)) (L V : List AV) : Option Bool :=
  match g with
  | Option.none => some true
  | some (o, want) => match gO L V o with
    | .bool b => some (b == want)
    | .tup _ => some false
    | _ => Option.none

section heaps
variable {α : Type}
noncomputable def setH (H : Heap) : Nat → AO → (Heap → α) → α :=
  @List.rec AO (fun _ => Nat → AO → (Heap → α) → α) (fun _ _ c => c []) (fun x t ih j v c => @Nat.rec (fun _ => α) (c (v :: t)) (fun j _ => ih j v fun t => c (x :: t)) j) H
theorem setH_eq : ∀ (H : Heap) (j : Nat) (v : AO) (c : Heap → α), setH H j v c = c (H.set j v)
  | [], _, _, _ => rfl
  | _ :: _, 0, _, _ => rfl
  | x :: l, j + 1, v, c => by
    show setH l j v (fun t => c (x :: t)) = _
    rw [setH_eq l j v]; rfl
noncomputable def appH (H X : Heap) : (Heap → α) → α :=
  @List.rec AO (fun _ => (Heap → α) → α) (fun c => c X) (fun o _ ih c => ih fun l => c (o :: l)) H
theorem appH_eq : ∀ (H X : Heap) (c : Heap → α), appH H X c = c (H ++ X)
  | [], _, _ => rfl
  | o :: H, X, c => by
    show appH H X (fun l => c (o :: l)) = _
    rw [appH_eq H X]; rfl
noncomputable def lenH (H : Heap) : Nat → (Nat → α) → α :=
  @List.rec AO (fun _ => Nat → (Nat → α) → α) (fun n c => @Nat.rec (fun _ => α) (c 0) (fun m _ => c (Nat.succ m)) n) (fun _ _ ih n c => ih (Nat.succ n) c) H
theorem lenH_eq : ∀ (H : Heap) (n : Nat) (c : Nat → α), lenH H n c = c (n + H.length)
  | [], n, c => by cases n <;> rfl
  | o :: H, n, c => by
    show lenH H (Nat.succ n) c = _
    rw [lenH_eq H]
    congr 1
    simp only [List.length_cons, Nat.succ_eq_add_one]; omega
noncomputable def layH (slot : Option Nat) (H : Heap) (o : AO) (c : Nat → Heap → α) : α := match slot with
  | some nm => setH H nm o fun H => c nm H
  | Option.none => lenH H 0 fun n => appH H [o] fun H => c n H
theorem layH_eq (slot : Option Nat) (H : Heap) (o : AO) (c : Nat → Heap → α) : layH slot H o c = c (layNew slot H o).1 (layNew slot H o).2 := by
  cases slot with
  | none => simp only [layH, lenH_eq, appH_eq, Nat.zero_add]; rfl
  | some nm => simp only [layH, setH_eq]; rfl
end heaps

noncomputable def effRes (call : CallT) (slot : Option Nat) (light : Bool) (H : Heap) (acc : Acc) : Eff → Option (AV × Heap × Acc)
  | .val v => (if light then fW v else fV v) fun v => some (v, H, acc)
  | .new ob f => fO ob fun ob => layH slot H ob fun nm H => fV (f nm) fun v => some (v, H, acc.add slot)
  | .put nm ob v => fO ob fun ob => fV v fun v => setH H nm ob fun H => some (v, H, acc)
  | .app nm ob n sz => fO ob fun ob => setH H nm .dead fun H => layH slot H ob fun nm H => fV (.own nm 0 n sz) fun v => some (v, H, acc.add slot)
  | .call t args => fS args fun args => call t args H

noncomputable def runFO (E : Env) (call : CallT) (slot : Option Nat) (fo : FO) (L V : List AV) (H : Heap) : Option (FS × Acc) :=
  match wantedF fo.g L V with
  | some true => match evalFA E L V H fo.fa with
    | some x => match primEff E H x with
      | some (eff, acc) => match effRes call slot fo.light H acc eff with
        | some (v, H, acc) => putF fo.dst v L V fun L V => some (⟨L, V, H⟩, acc)
        | Option.none => Option.none
      | Option.none => Option.none
    | Option.none => Option.none
  | some false => putF fo.dst (.tup []) L V fun L V => some (⟨L, V, H⟩, Acc.none)
  | Option.none => Option.none

noncomputable def runFOs (E : Env) (call : CallT) : List FO → FS → Option FS
  | [], s => some s
  | fo :: rest, s => match runFO E call Option.none fo s.L s.V s.H with
    | some (s, _) => runFOs E call rest s
    | Option.none => Option.none

/-- What is reached by an operation against what those ahead of it reached. -/
def spOk (bef : List Nat) (i : Nat) (acc : Acc) (sp : List (Nat × Acc)) : Bool :=
  sp.all fun p => !p.2.meets acc || (bef.getD i 0).testBit p.1

noncomputable def runFOsD (E : Env) (call : CallT) (n0 : Nat) (bef : List Nat) : List FO → FS → List (Nat × Acc) → Option FS
  | [], s, _ => some s
  | fo :: rest, s, sp => match runFO E call (fo.slot n0) fo s.L s.V s.H with
    | some (s, acc) => if acc.idle then runFOsD E call n0 bef rest s sp else if spOk bef fo.idx acc sp then runFOsD E call n0 bef rest s ((fo.idx, acc) :: sp) else Option.none
    | Option.none => Option.none

inductive FC where
  | skip
  | reg (fos : List FO)
  | dreg (n : Nat) (bef : List Nat) (fos : List FO)
  | seq (a b : FC)
  | cond (c : O) (a b : FC)
  | block (id : Nat) (b : FC)
  | loop (b : FC)
  | exit (id : Nat)
  | ret
  | range (f : O) (id : Nat) (caps mk : List (Option O)) (ps : List Nat) (asg body : Code)
  deriving Inhabited

/-- A loop whose rounds others call: its name, its code, its variables. -/
structure LD where
  l : Nat
  id : Nat
  V : List AV
  deriving Inhabited
abbrev YE := List LD
def YE.at (Y : YE) (l : Nat) : Option LD := Y.find? fun d => Nat.beq d.l l
abbrev CallY := YE → CallT

def gM (L V : List AV) : Option O → AV
  | some o => gO L V o
  | Option.none => .undef

/-- How a loop over a function ends. -/
def endF (L V : List AV) (l : Nat) (H : Heap) : Option (AExit × FS) :=
  match H[l]? with
  | some (.loop st pend tm ps a b) => if st == .busy then Option.none else match pend with
    | Option.none => some (.normal, ⟨L, V, H.set l (.loop .exhausted pend tm ps a b)⟩)
    | some .ret => some (.ret, ⟨L, V, H.set l (.loop .exhausted pend tm ps a b)⟩)
    | some (.exit i) => some (.exit i, ⟨L, V, H.set l (.loop .exhausted pend tm ps a b)⟩)
    | _ => Option.none
  | _ => Option.none

def loopF (f : FS → Option (AExit × FS)) : Nat → FS → Option (AExit × FS)
  | 0, _ => Option.none
  | k + 1, s => match f s with
    | some (.normal, s) => loopF f k s
    | x => x

noncomputable def evalF (E : Env) (cy : CallY) (Y : YE) (k : Nat) : FC → FS → Option (AExit × FS)
  | .skip, s => some (.normal, s)
  | .reg fos, s => match runFOs E (cy Y) fos ⟨[], s.V, s.H⟩ with
    | some s => some (.normal, s)
    | Option.none => Option.none
  | .dreg n bef fos, s => fS (s.H ++ List.replicate n .dead) fun H => match runFOsD E (cy Y) s.H.length bef fos ⟨[], s.V, H⟩ [] with
    | some s => some (.normal, s)
    | Option.none => Option.none
  | .seq a b, s => match evalF E cy Y k a s with
    | some (.normal, s) => evalF E cy Y k b s
    | x => x
  | .cond c a b, s => match gO s.L s.V c with
    | .bool true => evalF E cy Y k a s
    | .bool false => evalF E cy Y k b s
    | _ => Option.none
  | .block id b, s => match evalF E cy Y k b s with
    | some (.exit i, s) => if i = id then some (.normal, s) else some (.exit i, s)
    | x => x
  | .loop b, s => loopF (evalF E cy Y k b) k s
  | .exit id, s => some (.exit id, s)
  | .ret, s => some (.ret, s)
  | .range f id caps mk ps asg body, s => match gO s.L s.V f with
    | .clo g cs => match cy (⟨s.H.length, id, caps.map (gM s.L s.V)⟩ :: Y) (.func g) (.yield s.H.length :: cs) (s.H ++ [.loop .ready Option.none (mk.map (gM s.L s.V)) ps asg body]) with
      | some (_, H, _) => endF s.L s.V s.H.length H
      | Option.none => Option.none
    | _ => Option.none

/-! ### compiling -/
def idxIn (d : Nat) : List Nat → Nat → Option Nat
  | [], _ => none
  | v :: vs, j => if Nat.beq v d then some j else idxIn d vs (j + 1)

def sig0 : List Nat → Nat → Sig
  | [], _ => []
  | v :: vs, j => (v, .v j) :: sig0 vs (j + 1)

def O.shift : O → O
  | .l i => .l (i + 1)
  | o => o
def Sig.shift (s : Sig) : Sig := s.map fun p => (p.1, p.2.shift)
def O.isV (j : Nat) : O → Bool
  | .v i => Nat.beq i j
  | _ => false
def Sig.noV (s : Sig) (j : Nat) : Sig := s.filter fun p => match s.at p.1 with
  | some o => !o.isV j
  | none => true

/-- May a value that was moved be looked for where it came from? -/
def aliasOk (vs : List Nat) (rest : List Oper) : O → Bool
  | .v j => rest.all fun o => match o.dst, vs[j]? with
    | some d, some v => !Nat.beq d v
    | some _, none => false
    | none, _ => true
  | .l _ => true
  | .k _ => false

def compG (ops : List Oper) (s : Sig) (g : Option (Nat × Bool)) : Option (Option (O × Bool)) :=
  match g with
  | none => some none
  | some (j, want) => match (ops[j]?).bind (·.dst) with
    | some d => (s.at d).map fun o => some (o, want)
    | none => none

def compD (vs : List Nat) (N : Nat) (s : Sig) : Option Nat → Option (FD × Sig)
  | none => some (.none, s)
  | some d => match idxIn d vs 0 with
    | some j => some (.var j, (d, .v j) :: s.noV j)
    | none => if d < N then some (.push, (d, .l 0) :: s.shift) else none

def compAlias (vs : List Nat) (N : Nat) (s : Sig) (o : Oper) (rest : List Oper) : Option Sig :=
  match o.guard, o.op, o.dst with
  | none, .move (.tmp t), some d => match idxIn d vs 0, s.at t with
    | none, some x => if aliasOk vs rest x && Nat.blt d N then some ((d, x) :: s) else none
    | _, _ => none
  | _, _, _ => none

def compOps (vs : List Nat) (N : Nat) (ops : List Oper) : Nat → List Oper → Sig → Option (List FO × Sig)
  | _, [], s => some ([], s)
  | i, o :: rest, s => match compAlias vs N s o rest with
    | some s => compOps vs N ops (i + 1) rest s
    | none => match compG ops s o.guard, toFA s o.op, compD vs N s o.dst with
      | some g, some fa, some (d, s) => match compOps vs N ops (i + 1) rest s with
        | some (fos, s) => some (⟨fa, d, g, lightOp o.op, i, if mayLay o.op then some (rankA ops i) else none⟩ :: fos, s)
        | none => none
      | _, _, _ => none

def capM (s : Sig) (live : List Nat) : List Nat → Option (List (Option O))
  | [] => some []
  | t :: ts => match capM s live ts with
    | some l => if memN live t then match s.at t with
        | some o => some (some o :: l)
        | none => none
      else some (none :: l)
    | none => none

def mkM (s : Sig) (live : List Nat) : Nat → Nat → Option (List (Option O))
  | _, 0 => some []
  | i, n + 1 => match mkM s live (i + 1) n with
    | some l => if memN live i then match s.at i with
        | some o => some (some o :: l)
        | none => none
      else some (none :: l)
    | none => none

/-- 'LV': the variables of the loops; 'n': the number of the next one. -/
def compC (LV : Nat → List Nat) (vs : List Nat) (N : Nat) : Code → Sig → Nat → Option (FC × Sig × Nat)
  | .skip, s, n => some (.skip, s, n)
  | .label _, s, n => some (.skip, s, n)
  | .region _ ops draw, s, n => match compOps vs N ops.toList 0 ops.toList (sig0 vs 0) with
    | some (fos, s) => if draw then (if drawOk ops.toList then some (.dreg (rankA ops.toList ops.toList.length) (beforeA ops.toList) fos, s, n) else none) else some (.reg fos, s, n)
    | none => none
  | .seq a b, s, n => match compC LV vs N a s n with
    | some (fa, s, n) => match compC LV vs N b s n with
      | some (fb, s, n) => some (.seq fa fb, s, n)
      | none => none
    | none => none
  | .cond c a b, s, n => match toO s c, compC LV vs N a s n with
    | some o, some (fa, _, n) => match compC LV vs N b s n with
      | some (fb, _, n) => some (.cond o fa fb, sig0 vs 0, n)
      | none => none
    | _, _ => none
  | .block id b, s, n => match compC LV vs N b s n with
    | some (fb, _, n) => some (.block id fb, sig0 vs 0, n)
    | none => none
  | .loop b, s, n => match compC LV vs N b (sig0 vs 0) n with
    | some (fb, _, n) => some (.loop fb, sig0 vs 0, n)
    | none => none
  | .exit id, s, n => some (.exit id, s, n)
  | .ret, s, n => some (.ret, s, n)
  | .rangeFunc f ps asg body, s, n => match toO s f, capM s (liveC ps.toList asg body) (LV n), mkM s (liveC ps.toList asg body) 0 N with
    | some o, some caps, some mk => some (.range o n caps mk ps.toList asg body, s, n + 1)
    | _, _, _ => none
  | _, _, _ => none

/-! ### that it is right -/
/-- Loops keep what they are. -/
def KeepL (H H' : Heap) : Prop := H.length ≤ H'.length ∧ ∀ l s p tm ps a b, l < H.length → H'[l]? = some (.loop s p tm ps a b) → ∃ s0 p0, H[l]? = some (.loop s0 p0 tm ps a b)
theorem KeepL.refl (H : Heap) : KeepL H H := ⟨Nat.le_refl _, fun l s p tm ps a b _ h => ⟨s, p, h⟩⟩
theorem KeepL.trans {H H' H'' : Heap} (h : KeepL H H') (k : KeepL H' H'') : KeepL H H'' := ⟨Nat.le_trans h.1 k.1, fun l s p tm ps a b hl e => by
  obtain ⟨s1, p1, e1⟩ := k.2 l s p tm ps a b (Nat.lt_of_lt_of_le hl h.1) e
  exact h.2 l s1 p1 tm ps a b hl e1⟩
def noLoop : AO → Prop
  | .loop .. => False
  | _ => True
theorem KeepL.set {H : Heap} {nm : Nat} {o : AO} (h : noLoop o) : KeepL H (H.set nm o) := ⟨by simp, fun l s p tm ps a b hl e => by
  by_cases hn : nm = l
  · subst hn
    rw [List.getElem?_set_self hl] at e
    cases e; exact h.elim
  · rw [List.getElem?_set_ne hn] at e; exact ⟨s, p, e⟩⟩
theorem KeepL.append (H X : Heap) : KeepL H (H ++ X) := ⟨by simp, fun l s p tm ps a b hl e => by
  rw [List.getElem?_append_left hl] at e; exact ⟨s, p, e⟩⟩
theorem KeepL.lay {H : Heap} {slot : Option Nat} {o : AO} (h : noLoop o) : KeepL H (layNew slot H o).2 := by
  cases slot with
  | none => exact .append _ _
  | some nm => exact .set h

def NoLoopE : Eff → Prop
  | .new o _ => noLoop o
  | .put _ o _ => noLoop o
  | .app _ o _ _ => noLoop o
  | _ => True

/-- An invariant of heaps that hangs on what loops are. -/
def Stable (I : Heap → Prop) : Prop := ∀ H H', KeepL H H' → I H → I H'

/-- What is called answers as the other does. -/
def Below' (I : Heap → Prop) (c1 c2 : CallT) : Prop := ∀ t args H r, I H → c1 t args H = some r → c2 t args H = some r ∧ I r.2.1

/-- Told functions make no loops. -/
def PrimNL (E : Env) : Prop := ∀ f args p, E.prim f args = some p → ∀ H eff acc, p H = some (eff, acc) → NoLoopE eff

structure VarOk (vs : List Nat) (N : Nat) (V tm : List AV) : Prop where
  len : V.length = vs.length
  big : tm.length = N
  at' : ∀ (j t : Nat), vs[j]? = some t → V.getD j .undef = tm.getD t .undef

theorem at_cons {s : Sig} {d t : Nat} {x : O} : Sig.at ((d, x) :: s) t = if d = t then some x else s.at t := by
  unfold Sig.at
  by_cases h : d = t
  · simp [h]
  · have : Nat.beq d t = false := by cases hb : Nat.beq d t with
      | false => rfl
      | true => exact absurd (Nat.eq_of_beq_eq_true hb) h
    simp [this, h]

theorem at_mem {s : Sig} {t : Nat} {o : O} (h : s.at t = some o) : (t, o) ∈ s := by
  unfold Sig.at at h
  simp only [Option.map_eq_some_iff] at h
  obtain ⟨p, h1, h2⟩ := h
  have h3 := List.mem_of_find?_eq_some h1
  have h4 := List.find?_some h1
  obtain ⟨a, b⟩ := p
  simp at h2; subst h2
  have := Nat.eq_of_beq_eq_true h4
  simp at this; subst this
  exact h3

theorem at_filter (f : Nat → Bool) : ∀ (s : Sig) (t : Nat), Sig.at (s.filter fun p => f p.1) t = if f t then s.at t else none
  | [], t => by simp [Sig.at]
  | (d, x) :: s, t => by
    have ih := at_filter f s t
    by_cases hd : f d = true
    · rw [List.filter_cons_of_pos (by simpa using hd), at_cons, at_cons, ih]
      by_cases h : d = t
      · subst h; simp [hd]
      · simp [h]
    · rw [List.filter_cons_of_neg (by simpa using hd), at_cons, ih]
      by_cases h : d = t
      · subst h; simp [hd]
      · simp [h]

theorem noV_at {s : Sig} {j t : Nat} {o : O} (h : (s.noV j).at t = some o) : s.at t = some o ∧ o.isV j = false := by
  unfold Sig.noV at h
  rw [at_filter (fun t => match s.at t with
    | some o => !o.isV j
    | none => true)] at h
  cases ha : s.at t with
  | none => simp [ha] at h
  | some o' =>
    simp only [ha] at h
    split at h
    · rename_i hb
      cases h
      exact ⟨rfl, by simpa using hb⟩
    · cases h

theorem shift_at : ∀ (s : Sig) (t : Nat), s.shift.at t = (s.at t).map O.shift
  | [], t => rfl
  | (d, x) :: s, t => by
    show Sig.at ((d, x.shift) :: Sig.shift s) t = _
    rw [at_cons, at_cons, shift_at s t]
    split <;> rfl

theorem sig0_mem : ∀ {vs : List Nat} {k t : Nat} {o : O}, (t, o) ∈ sig0 vs k → ∃ j, vs[j]? = some t ∧ o = .v (k + j)
  | [], k, t, o, h => by cases h
  | v :: vs, k, t, o, h => by
    rcases List.mem_cons.1 h with h | h
    · cases h; exact ⟨0, rfl, rfl⟩
    · obtain ⟨j, h1, rfl⟩ := sig0_mem h
      exact ⟨j + 1, h1, by rw [show k + 1 + j = k + (j + 1) by omega]⟩

theorem sig0_ok {vs : List Nat} {N : Nat} {L V tm : List AV} (h : VarOk vs N V tm) : SigOk (sig0 vs 0) L V tm := fun t o ho => by
  obtain ⟨j, h1, rfl⟩ := sig0_mem (at_mem ho)
  have := h.at' j t h1
  simpa [gO] using this

theorem idxIn_some {d : Nat} : ∀ {vs : List Nat} {k j : Nat}, idxIn d vs k = some j → ∃ i, j = k + i ∧ vs[i]? = some d
  | [], k, j, h => by cases h
  | v :: vs, k, j, h => by
    unfold idxIn at h
    split at h
    · rename_i hb
      cases h
      exact ⟨0, rfl, by simp [Nat.eq_of_beq_eq_true hb]⟩
    · obtain ⟨i, rfl, h2⟩ := idxIn_some h
      exact ⟨i + 1, by omega, h2⟩

theorem idxIn_none {d : Nat} : ∀ {vs : List Nat} {k : Nat}, idxIn d vs k = none → d ∉ vs
  | [], k, h => by simp
  | v :: vs, k, h => by
    unfold idxIn at h
    split at h
    · cases h
    · rename_i hb
      have := idxIn_none h
      simp only [List.mem_cons, not_or]
      refine ⟨fun e => hb (by subst e; simp), this⟩

/-- A value is put where the compiler says. -/
theorem compD_ok {vs : List Nat} (hnd : vs.Nodup) {N : Nat} {s s' : Sig} {dst : Option Nat} {d : FD} (hc : compD vs N s dst = some (d, s')) {L V tm : List AV} (hV : VarOk vs N V tm) (hs : SigOk s L V tm) (hvN : ∀ t ∈ vs, t < N) (v : AV) :
    SigOk s' (putFL d v L) (putFV d v V) (putT tm dst v) ∧ VarOk vs N (putFV d v V) (putT tm dst v) := by
  cases dst with
  | none =>
    cases hc
    exact ⟨hs, hV⟩
  | some d0 =>
    simp only [compD] at hc
    have hget : ∀ t, t ≠ d0 → (putT tm (some d0) v).getD t .undef = tm.getD t .undef := fun t ht => putT_getD (fun e => ht (by cases e; rfl))
    have hset : d0 < N → (putT tm (some d0) v).getD d0 .undef = v := fun h => by
      have := hV.big
      simp [putT, List.getD_eq_getElem?_getD, List.getElem?_set, show d0 < tm.length by omega]
    have hbig : (putT tm (some d0) v).length = N := by simp [putT]; exact hV.big
    split at hc
    · rename_i j hj
      cases hc
      obtain ⟨i, rfl, hi⟩ := idxIn_some hj
      simp only [Nat.zero_add] at *
      have hiV : i < V.length := by rw [hV.len]; exact (List.getElem?_eq_some_iff.1 hi).1
      have hd0 := hvN d0 (List.mem_of_getElem? hi)
      have hVs : ∀ k, (V.set i v).getD k .undef = if k = i then v else V.getD k .undef := fun k => by
        simp only [List.getD_eq_getElem?_getD, List.getElem?_set]
        by_cases hk : k = i
        · subst hk; simp [hiV]
        · simp [hk, Ne.symm hk]
      refine ⟨fun t o ho => ?_, ⟨by simp [putFV, hV.len], hbig, fun k t hk => ?_⟩⟩
      · rw [at_cons] at ho
        split at ho
        · rename_i e; subst e
          cases ho
          rw [hset hd0]
          simp only [gO, putFV]
          rw [hVs]; simp
        · rename_i hne
          rw [hget t (Ne.symm hne)]
          obtain ⟨hat, hm⟩ := noV_at ho
          have := hs t o hat
          rw [← this]
          cases o with
          | l q => rfl
          | k x => rfl
          | v q =>
            have hq : q ≠ i := by
              intro e
              simp [O.isV, e] at hm
            simp only [gO, putFV]
            rw [hVs, if_neg hq]
      · simp only [putFV]
        rw [hVs]
        by_cases hki : k = i
        · subst hki
          rw [hi] at hk; cases hk
          rw [if_pos rfl, hset hd0]
        · rw [if_neg hki, hget t (fun e => ?_)]
          · exact hV.at' k t hk
          · subst e
            have hlt := (List.getElem?_eq_some_iff.1 hk).1
            have hlt2 := (List.getElem?_eq_some_iff.1 hi).1
            have e1 := (List.getElem?_eq_some_iff.1 hk).2
            have e2 := (List.getElem?_eq_some_iff.1 hi).2
            exact hki ((List.getElem?_inj hlt hnd).1 (hk.trans hi.symm))
    · rename_i hj
      split at hc
      · rename_i hd0
        cases hc
        have hnv := idxIn_none hj
        refine ⟨fun t o ho => ?_, ⟨hV.len, hbig, fun k t hk => ?_⟩⟩
        · rw [at_cons] at ho
          split at ho
          · rename_i e; subst e
            cases ho
            rw [hset hd0]
            simp [gO, putFL]
          · rename_i hne
            rw [hget t (Ne.symm hne)]
            rw [shift_at] at ho
            simp only [Option.map_eq_some_iff] at ho
            obtain ⟨o', h1, rfl⟩ := ho
            rw [← hs t o' h1]
            cases o' <;> simp [O.shift, gO, putFL, putFV]
        · rw [hget t (fun e => hnv (by subst e; exact List.mem_of_getElem? hk))]
          exact hV.at' k t hk
      · cases hc

theorem putF_alias {tm : List AV} {d : Nat} {v : AV} {t : Nat} : (putT tm (some d) v).getD t .undef = if t = d ∧ d < tm.length then v else tm.getD t .undef := by
  simp only [putT, List.getD_eq_getElem?_getD, List.getElem?_set]
  by_cases h : d = t
  · subst h
    by_cases hl : d < tm.length
    · simp [hl]
    · simp [hl]
  · simp [h, Ne.symm h]

/-- A value that is only moved is looked for where it came from. -/
theorem compAlias_ok {vs : List Nat} {N : Nat} {s s' : Sig} {o : Oper} {rest : List Oper} (hc : compAlias vs N s o rest = some s') {L V tm : List AV} (hV : VarOk vs N V tm) (hs : SigOk s L V tm) (E : Env) (call : CallT) (ops : List Oper) (slot : Option Nat) (H : Heap) :
    ∃ tm', runOpG E call ops slot o ⟨tm, H⟩ = some (⟨tm', H⟩, Acc.none) ∧ SigOk s' L V tm' ∧ VarOk vs N V tm' := by
  unfold compAlias at hc
  split at hc
  · rename_i t d hg hop hdst
    split at hc
    · rename_i x hx hat
      split at hc
      · rename_i hok
        simp only [Bool.and_eq_true] at hok
        cases hc
        have hd : d < N := Nat.le_of_ble_eq_true hok.2
        have hdl : d < tm.length := by rw [hV.big]; exact hd
        refine ⟨putT tm (some d) (tm.getD t .undef), ?_, fun k q hk => ?_, ⟨hV.len, by simp [putT]; exact hV.big, fun k q hk => ?_⟩⟩
        · unfold runOpG wantedA
          rw [hg]
          simp only
          unfold runOp evalOp
          rw [hop]
          simp [primEff, applyEff, lightOp, hop, fW_eq, fS_eq, hdst, opA]
        · rw [putF_alias]
          rw [at_cons] at hk
          split at hk
          · rename_i e; subst e
            cases hk
            rw [if_pos ⟨rfl, hdl⟩]
            exact hs t x hat
          · rename_i hne
            rw [if_neg (fun h => hne h.1.symm)]
            exact hs k q hk
        · rw [putF_alias, if_neg (fun h => idxIn_none hx (by rw [← h.1]; exact List.mem_of_getElem? hk))]
          exact hV.at' k q hk
      · cases hc
    · cases hc
  · cases hc

theorem compG_ok {ops : List Oper} {s : Sig} {o : Oper} {g : Option (O × Bool)} (hc : compG ops s o.guard = some g) {L V tm : List AV} (hs : SigOk s L V tm) : wantedA ops tm o = wantedF g L V := by
  unfold compG at hc
  unfold wantedA wantedF
  split at hc
  · rename_i hg
    cases hc
    simp only [hg]
  · rename_i j want hg
    simp only [hg]
    split at hc
    · rename_i d hd
      simp only [Option.map_eq_some_iff] at hc
      obtain ⟨x, h1, rfl⟩ := hc
      simp only [hd, hs d x h1]
      rfl
    · cases hc

theorem storeA_nl {E : Env} {H : Heap} {t : TypeId} {p v : AV} {eff : Eff} {acc : Acc} (h : storeA E H t p v = some (eff, acc)) : NoLoopE eff := by
  unfold storeA at h
  cases hi : E.ty t with
  | none => simp [hi] at h
  | some i =>
    simp only [hi, Option.bind_eq_bind, Option.bind_some] at h
    split at h
    · split at h
      · split at h
        · simp at h; obtain ⟨rfl, _⟩ := h; trivial
        · cases h
      · cases h
    · cases h

theorem updateA_nl {E : Env} {H : Heap} {t : TypeId} {x k y : AV} {eff : Eff} {acc : Acc} (h : updateA E H t x k y = some (eff, acc)) : NoLoopE eff := by
  unfold updateA at h
  simp only [Option.bind_eq_some_iff] at h
  obtain ⟨i, _, h⟩ := h
  split at h
  · simp only [Option.bind_eq_some_iff] at h
    obtain ⟨ki, _, h⟩ := h
    split at h
    · split at h
      · split at h
        · split at h
          · split at h
            · cases h; trivial
            · cases h; trivial
            · cases h
          · cases h
        · cases h
      · cases h
    · cases h
  · cases h

theorem appendA_nl {E : Env} {H : Heap} {t : TypeId} {s x : AV} {eff : Eff} {acc : Acc} (h : appendA E H t s x = some (eff, acc)) : NoLoopE eff := by
  obtain ⟨H2, h⟩ := appendA_some h
  unfold appendA0 at h
  cases hi : E.ty t with
  | none => simp [hi] at h
  | some i =>
    simp only [hi, Option.bind_eq_bind, Option.bind_some] at h
    split at h
    · rename_i e hds
      cases hei : E.ty e with
      | none => simp [hei] at h
      | some ei =>
        simp only [hei, Option.bind_some] at h
        cases hcx : contentA H2 ei.size x with
        | none => simp [hcx] at h
        | some q =>
          obtain ⟨k, new, acx⟩ := q
          simp only [hcx, Option.bind_some] at h
          split at h
          · cases h
          split at h
          · split at h
            · simp at h; obtain ⟨rfl, _⟩ := h; trivial
            · simp at h; obtain ⟨rfl, _⟩ := h; trivial
            · cases h
          · split at h
            · split at h
              · simp at h; obtain ⟨rfl, _⟩ := h; trivial
              · cases h
            · split at h
              · cases h
              · split at h
                · split at h
                  · simp at h; obtain ⟨rfl, _⟩ := h; trivial
                  · cases h
                · cases h
            · cases h
    · cases h

theorem notLoop_ok {o : AO} (h : notLoop o) : noLoop o := by
  cases o <;> first
    | trivial
    | exact (h _ _ _ _ _ _ rfl).elim

theorem extA_nl {E : Env} {H : Heap} {k : XK} {xs : List AV} {eff : Eff} {acc : Acc} (h : extA E H k xs = some (eff, acc)) : NoLoopE eff := by
  rcases extA_shape h with ⟨v, rfl⟩ | ⟨nm, ob, v, rfl, hn⟩ | ⟨_, ob, f, rfl, hn⟩
  · trivial
  · exact notLoop_ok hn
  · exact notLoop_ok hn

theorem evalFA_nl {E : Env} {L V : List AV} {H : Heap} {fa : FA} {eff : Eff} {acc : Acc} (h : evalFA E L V H fa = some (eff, acc)) : NoLoopE eff := by
  have hv : ∀ {x : Option AV}, (x.map fun x => (Eff.val x, Acc.none)) = some (eff, acc) → NoLoopE eff := fun hx => by
    simp only [Option.map_eq_some_iff] at hx
    obtain ⟨y, _, he⟩ := hx
    cases he; trivial
  have hva : ∀ {x : Option (AV × Acc)}, (x.map fun (x, a) => (Eff.val x, a)) = some (eff, acc) → NoLoopE eff := fun hx => by
    simp only [Option.map_eq_some_iff] at hx
    obtain ⟨y, _, he⟩ := hx
    cases he; trivial
  cases fa <;> simp only [evalFA] at h
  case pick c a b => split at h; exact hv h; cases h
  case alloc t =>
    simp only [Option.bind_eq_some_iff] at h
    obtain ⟨i, _, he⟩ := h; cases he; trivial
  case box t x =>
    simp only [Option.bind_eq_some_iff] at h
    obtain ⟨i, _, he⟩ := h; cases he; trivial
  case buildSlice t n ps =>
    simp only [Option.map_eq_some_iff] at h
    obtain ⟨e, h1, he⟩ := h
    cases he
    obtain ⟨o, f, rfl⟩ := buildSliceA_new h1
    unfold buildSliceA at h1
    cases hi : E.ty t with
    | none => simp [hi] at h1
    | some i =>
      simp only [hi, Option.bind_eq_bind, Option.bind_some] at h1
      split at h1
      · rename_i e hd
        cases hei : E.ty e with
        | none => simp [hei] at h1
        | some ei =>
          simp only [hei, Option.bind_some] at h1
          split at h1
          · cases h1
          · simp only [Option.bind_eq_some_iff] at h1
            obtain ⟨cs, _, h2⟩ := h1
            cases h2; trivial
      · cases h1
  case store t a x => exact storeA_nl h
  case nilCheck x => split at h <;> first | exact hv h | cases h
  case mapUp t x i y => exact updateA_nl h
  case conv s d x => 
    unfold convA at h
    simp only [Option.bind_eq_bind, Option.bind_eq_some_iff] at h
    obtain ⟨i, _, j, _, h⟩ := h
    split at h
    · simp at h; obtain ⟨rfl, _⟩ := h; trivial
    · simp at h; obtain ⟨rfl, _⟩ := h; trivial
    · obtain ⟨⟨_, l, rfl⟩, _⟩ := bstrA_fr h; trivial
    · obtain ⟨⟨_, l, rfl⟩, _⟩ := bstrA_fr h; trivial
    · cases h
  case mkIface t x =>
    simp only [Option.bind_eq_some_iff] at h
    obtain ⟨i, _, h⟩ := h
    split at h
    · cases h
    · exact hv h
  case mkMap t =>
    simp only [Option.bind_eq_some_iff] at h
    obtain ⟨i, _, h⟩ := h
    split at h
    · cases h; trivial
    · cases h
  case extract x i => split at h; exact hv h; cases h
  case call f args => cases h; trivial
  case callv x args =>
    unfold calleeV at h
    split at h <;> first | (cases h; trivial) | cases h
  case append t t2 s x =>
    simp only [Option.bind_eq_some_iff] at h
    obtain ⟨i, _, h⟩ := h
    split at h
    · exact appendA_nl h
    · exact appendA_nl h
    · exact extA_nl h
    · cases h
  case ext k xs => exact extA_nl h
  case fail => cases h
  all_goals first | exact hv h | exact hva h

theorem primEff_nl {E : Env} (hE : PrimNL E) {H : Heap} {x : Eff × Acc} {eff : Eff} {acc : Acc} (hx : NoLoopE x.1) (h : primEff E H x = some (eff, acc)) : NoLoopE eff := by
  obtain ⟨e, a⟩ := x
  unfold primEff at h
  split at h
  · rename_i f args
    simp only [fS_eq] at h
    split at h
    · rename_i p hp; exact hE _ _ p hp H eff acc h
    · cases h; trivial
  · cases h; exact hx

section inv
variable {I : Heap → Prop} (hI : Stable I)
include hI
theorem effRes_ok {c1 c2 : CallT} (hb : Below' I c1 c2) {slot : Option Nat} {light : Bool} {H H' : Heap} {acc acc' : Acc} {eff : Eff} {v : AV} (hn : NoLoopE eff) (hH : I H) (h : effRes c1 slot light H acc eff = some (v, H', acc')) (o : Oper) (tm : List AV) :
    applyEff c2 slot o ⟨tm, H⟩ acc eff = some (⟨putT tm o.dst v, H'⟩, acc') ∧ I H' := by
  cases eff with
  | val x =>
    have : (v, H', acc') = (x, H, acc) := by
      cases light <;> simp [effRes, fV_eq, fW_eq] at h <;> simp [h]
    cases this
    refine ⟨?_, hH⟩
    cases hl : lightOp o.op <;> simp [applyEff, hl, fV_eq, fW_eq, fS_eq]
  | new ob f =>
    simp [effRes, fO_eq, fV_eq, fS_eq, layH_eq, setH_eq] at h
    obtain ⟨rfl, rfl, rfl⟩ := h
    exact ⟨by simp [applyEff, done, fO_eq, fV_eq, fS_eq], hI _ _ (.lay hn) hH⟩
  | put nm ob x =>
    simp [effRes, fO_eq, fV_eq, fS_eq, layH_eq, setH_eq] at h
    obtain ⟨rfl, rfl, rfl⟩ := h
    exact ⟨by simp [applyEff, done, fO_eq, fV_eq, fS_eq], hI _ _ (.set hn) hH⟩
  | app nm ob n sz =>
    simp [effRes, fO_eq, fV_eq, fS_eq, layH_eq, setH_eq] at h
    obtain ⟨rfl, rfl, rfl⟩ := h
    exact ⟨by simp [applyEff, done, fO_eq, fV_eq, fS_eq], hI _ _ ((KeepL.set (o := .dead) trivial).trans (.lay hn)) hH⟩
  | call t args =>
    simp [effRes, fS_eq] at h
    obtain ⟨h1, h2⟩ := hb _ _ _ _ hH h
    exact ⟨by simp [applyEff, done, fV_eq, fS_eq, h1], h2⟩

/-- One operation. -/
theorem runFO_ok {E : Env} (hE : PrimNL E) {c1 c2 : CallT} (hb : Below' I c1 c2) {vs : List Nat} (hnd : vs.Nodup) {N : Nat} (hvN : ∀ t ∈ vs, t < N) {ops : List Oper} {s s' : Sig} {o : Oper} {g : Option (O × Bool)} {fa : FA} {d : FD} {i : Nat} {sx : Option Nat}
    (h1 : compG ops s o.guard = some g) (h2 : toFA s o.op = some fa) (h3 : compD vs N s o.dst = some (d, s')) {L V tm : List AV} {H : Heap} (hV : VarOk vs N V tm) (hs : SigOk s L V tm) (hH : I H) {slot : Option Nat} {fs : FS} {acc : Acc}
    (h : runFO E c1 slot ⟨fa, d, g, lightOp o.op, i, sx⟩ L V H = some (fs, acc)) :
    ∃ tm', runOpG E c2 ops slot o ⟨tm, H⟩ = some (⟨tm', fs.H⟩, acc) ∧ SigOk s' fs.L fs.V tm' ∧ VarOk vs N fs.V tm' ∧ I fs.H := by
  unfold runFO at h
  unfold runOpG
  simp only [compG_ok h1 hs]
  split at h
  · rename_i hw
    simp only at hw
    simp only [hw]
    unfold runOp
    rw [toFA_ok hs h2]
    simp only at h
    cases hev : evalFA E L V H fa with
    | none => simp [hev] at h
    | some x =>
      simp only [hev] at h ⊢
      cases hp : primEff E H x with
      | none => simp [hp] at h
      | some q =>
        obtain ⟨eff, acc0⟩ := q
        simp only [hp] at h ⊢
        cases hr : effRes c1 slot (lightOp o.op) H acc0 eff with
        | none => simp [hr] at h
        | some q =>
          obtain ⟨v, H', acc'⟩ := q
          simp only [hr, putF_eq, Option.some.injEq, Prod.mk.injEq] at h
          obtain ⟨rfl, rfl⟩ := h
          obtain ⟨k1, k2⟩ := compD_ok hnd h3 hV hs hvN v
          obtain ⟨j1, j2⟩ := effRes_ok hI hb (primEff_nl hE (evalFA_nl (show evalFA E L V H fa = some (x.1, x.2) from hev)) hp) hH hr o tm
          exact ⟨putT tm o.dst v, j1, k1, k2, j2⟩
  · rename_i hw
    simp only at hw
    simp only [hw, putF_eq, Option.some.injEq, Prod.mk.injEq] at h ⊢
    obtain ⟨rfl, rfl⟩ := h
    obtain ⟨k1, k2⟩ := compD_ok hnd h3 hV hs hvN (.tup [])
    exact ⟨putT tm o.dst (.tup []), by simp [fS_eq], k1, k2, hH⟩
  · cases h

/-- A row of operations. -/
theorem runFOs_ok {E : Env} (hE : PrimNL E) {c1 c2 : CallT} (hb : Below' I c1 c2) {vs : List Nat} (hnd : vs.Nodup) {N : Nat} (hvN : ∀ t ∈ vs, t < N) {ops : List Oper} : ∀ {rest : List Oper} {i : Nat} {s s' : Sig} {fos : List FO}, compOps vs N ops i rest s = some (fos, s') →
    ∀ {L V tm : List AV} {H : Heap}, VarOk vs N V tm → SigOk s L V tm → I H → ∀ {fs : FS}, runFOs E c1 fos ⟨L, V, H⟩ = some fs →
    ∃ tm', runOps E c2 ops rest ⟨tm, H⟩ = some ⟨tm', fs.H⟩ ∧ SigOk s' fs.L fs.V tm' ∧ VarOk vs N fs.V tm' ∧ I fs.H
  | [], i, s, s', fos, hc, L, V, tm, H, hV, hs, hH, fs, h => by
    cases hc
    cases h
    exact ⟨tm, rfl, hs, hV, hH⟩
  | o :: rest, i, s, s', fos, hc, L, V, tm, H, hV, hs, hH, fs, h => by
    simp only [compOps] at hc
    split at hc
    · rename_i s1 ha
      obtain ⟨tm1, g1, g2, g3⟩ := compAlias_ok ha hV hs E c2 ops none H
      obtain ⟨tm2, k1, k2, k3⟩ := runFOs_ok hE hb hnd hvN hc g3 g2 hH h
      refine ⟨tm2, ?_, k2, k3⟩
      simp only [runOps, Option.bind_eq_bind, g1, Option.bind_some]
      exact k1
    · split at hc
      · rename_i g fa d s1 q1 q2 q3
        split at hc
        · rename_i fos1 s2 q4
          cases hc
          simp only [runFOs] at h
          split at h
          · rename_i fs1 acc hr
            obtain ⟨tm1, g1, g2, g3, g4⟩ := runFO_ok hI hE hb hnd hvN q1 q2 q3 hV hs hH hr
            obtain ⟨tm2, k1, k2, k3⟩ := runFOs_ok hE hb hnd hvN q4 g3 g2 g4 h
            refine ⟨tm2, ?_, k2, k3⟩
            simp only [runOps, Option.bind_eq_bind, g1, Option.bind_some]
            exact k1
          · cases h
        · cases hc
      · cases hc
end inv
end Go.Px
