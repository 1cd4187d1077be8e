/- The faster machine: operations, code; what it reckons the abstract machine reckons. -/
import Derived.Test.YtnpphcbfainkbaaPyA
set_option linter.unusedVariables false
set_option linter.unusedSimpArgs false
namespace Go.Px
open Go

structure FS where
  L : List AV
  V : List AV
  H : Heap
  deriving Inhabited

inductive FD where
  | none
  | push
  | var (j : Nat)
  deriving Inhabited

structure FO where
  fa : FA
  dst : FD
  g : Option (O × Bool)
  light : Bool
  idx : Nat
  deriving Inhabited

section run
variable {α : Type}
def setK : List AV → Nat → AV → (List AV → α) → α
  | [], _, _, c => c []
  | _ :: l, 0, v, c => c (v :: l)
  | x :: l, j + 1, v, c => setK l j v fun l => c (x :: l)
theorem setK_eq : ∀ (l : List AV) (j : Nat) (v : AV) (c : List AV → α), setK l j v c = c (l.set j v)
  | [], _, _, _ => rfl
  | _ :: _, 0, _, _ => rfl
  | x :: l, j + 1, v, c => by simp only [setK, setK_eq l j, List.set]

def putF (d : FD) (v : AV) (L V : List AV) (c : List AV → List AV → α) : α := match d with
  | .none => c L V
  | .push => c (v :: L) V
  | .var j => setK V j v fun V => c L V
def putFL : FD → AV → List AV → List AV
  | .push, v, L => v :: L
  | _, _, L => L
def putFV : FD → AV → List AV → List AV
  | .var j, v, V => V.set j v
  | _, _, V => V
theorem putF_eq (d : FD) (v : AV) (L V : List AV) (c : List AV → List AV → α) : putF d v L V c = c (putFL d v L) (putFV d v V) := by
  cases d <;> simp [putF, putFL, putFV, setK_eq]
end run

def wantedF (g : Option (O × Bool)) (L V : List AV) : Option Bool :=
  match g with
  | Option.none => some true
  | some (o, want) => match gO L V o with
    | .bool b => some (b == want)
    | .tup _ => some false
    | _ => Option.none

def effRes (call : CallT) (slot : Option Nat) (light : Bool) (H : Heap) (acc : Acc) : Eff → Option (AV × Heap × Acc)
  | .val v => (if light then fW v else fV v) fun v => some (v, H, acc)
  | .new ob f => fO ob fun ob => fV (f (layNew slot H ob).1) fun v => fS (layNew slot H ob).2 fun H => some (v, H, acc.add slot)
  | .put nm ob v => fO ob fun ob => fV v fun v => fS (H.set nm ob) fun H => some (v, H, acc)
  | .app nm ob n sz => fO ob fun ob => fV (.own (layNew slot (H.set nm .dead) ob).1 0 n sz) fun v => fS (layNew slot (H.set nm .dead) ob).2 fun H => some (v, H, acc.add slot)
  | .call t args => fS args fun args => call t args H

def runFO (E : Env) (call : CallT) (slot : Option Nat) (fo : FO) (L V : List AV) (H : Heap) : Option (FS × Acc) :=
  match wantedF fo.g L V with
  | some true => match evalFA E L V H fo.fa with
    | some x => match primEff E H x with
      | some (eff, acc) => match effRes call slot fo.light H acc eff with
        | some (v, H, acc) => putF fo.dst v L V fun L V => some (⟨L, V, H⟩, acc)
        | Option.none => Option.none
      | Option.none => Option.none
    | Option.none => Option.none
  | some false => putF fo.dst (.tup []) L V fun L V => some (⟨L, V, H⟩, Acc.none)
  | Option.none => Option.none

def runFOs (E : Env) (call : CallT) : List FO → FS → Option FS
  | [], s => some s
  | fo :: rest, s => match runFO E call Option.none fo s.L s.V s.H with
    | some (s, _) => runFOs E call rest s
    | Option.none => Option.none

/-- What is reached by an operation against what those ahead of it reached. -/
def spOk (bef : List Nat) (i : Nat) (acc : Acc) (sp : List (Nat × Acc)) : Bool :=
  sp.all fun p => !p.2.meets acc || (bef.getD i 0).testBit p.1

def runFOsD (E : Env) (call : CallT) (n0 : Nat) (bef : List Nat) : List FO → FS → List (Nat × Acc) → Option FS
  | [], s, _ => some s
  | fo :: rest, s, sp => match runFO E call (some (n0 + fo.idx)) fo s.L s.V s.H with
    | some (s, acc) => if acc.idle then runFOsD E call n0 bef rest s sp else if spOk bef fo.idx acc sp then runFOsD E call n0 bef rest s ((fo.idx, acc) :: sp) else Option.none
    | Option.none => Option.none

inductive FC where
  | skip
  | reg (fos : List FO)
  | dreg (n : Nat) (bef : List Nat) (fos : List FO)
  | seq (a b : FC)
  | cond (c : O) (a b : FC)
  | block (id : Nat) (b : FC)
  | loop (b : FC)
  | exit (id : Nat)
  | ret
  deriving Inhabited

def loopF (f : FS → Option (AExit × FS)) : Nat → FS → Option (AExit × FS)
  | 0, _ => Option.none
  | k + 1, s => match f s with
    | some (.normal, s) => loopF f k s
    | x => x

def evalF (E : Env) (call : CallT) (k : Nat) : FC → FS → Option (AExit × FS)
  | .skip, s => some (.normal, s)
  | .reg fos, s => match runFOs E call fos ⟨[], s.V, s.H⟩ with
    | some s => some (.normal, s)
    | Option.none => Option.none
  | .dreg n bef fos, s => fS (s.H ++ List.replicate n .dead) fun H => match runFOsD E call s.H.length bef fos ⟨[], s.V, H⟩ [] with
    | some s => some (.normal, s)
    | Option.none => Option.none
  | .seq a b, s => match evalF E call k a s with
    | some (.normal, s) => evalF E call k b s
    | x => x
  | .cond c a b, s => match gO s.L s.V c with
    | .bool true => evalF E call k a s
    | .bool false => evalF E call k b s
    | _ => Option.none
  | .block id b, s => match evalF E call k b s with
    | some (.exit i, s) => if i = id then some (.normal, s) else some (.exit i, s)
    | x => x
  | .loop b, s => loopF (evalF E call k b) k s
  | .exit id, s => some (.exit id, s)
  | .ret, s => some (.ret, s)

/-! ### compiling -/
def idxIn (d : Nat) : List Nat → Nat → Option Nat
  | [], _ => none
  | v :: vs, j => if Nat.beq v d then some j else idxIn d vs (j + 1)

def sig0 : List Nat → Nat → Sig
  | [], _ => []
  | v :: vs, j => (v, .v j) :: sig0 vs (j + 1)

def O.shift : O → O
  | .l i => .l (i + 1)
  | o => o
def Sig.shift (s : Sig) : Sig := s.map fun p => (p.1, p.2.shift)
def O.isV (j : Nat) : O → Bool
  | .v i => Nat.beq i j
  | _ => false
def Sig.noV (s : Sig) (j : Nat) : Sig := s.filter fun p => match s.at p.1 with
  | some o => !o.isV j
  | none => true

/-- May a value that was moved be looked for where it came from? -/
def aliasOk (vs : List Nat) (rest : List Oper) : O → Bool
  | .v j => rest.all fun o => match o.dst, vs[j]? with
    | some d, some v => !Nat.beq d v
    | some _, none => false
    | none, _ => true
  | .l _ => true
  | .k _ => false

def compG (ops : List Oper) (s : Sig) (g : Option (Nat × Bool)) : Option (Option (O × Bool)) :=
  match g with
  | none => some none
  | some (j, want) => match (ops[j]?).bind (·.dst) with
    | some d => (s.at d).map fun o => some (o, want)
    | none => none

def compD (vs : List Nat) (N : Nat) (s : Sig) : Option Nat → Option (FD × Sig)
  | none => some (.none, s)
  | some d => match idxIn d vs 0 with
    | some j => some (.var j, (d, .v j) :: s.noV j)
    | none => if d < N then some (.push, (d, .l 0) :: s.shift) else none

def compAlias (vs : List Nat) (N : Nat) (s : Sig) (o : Oper) (rest : List Oper) : Option Sig :=
  match o.guard, o.op, o.dst with
  | none, .move (.tmp t), some d => match idxIn d vs 0, s.at t with
    | none, some x => if aliasOk vs rest x && Nat.blt d N then some ((d, x) :: s) else none
    | _, _ => none
  | _, _, _ => none

def compOps (vs : List Nat) (N : Nat) (ops : List Oper) : Nat → List Oper → Sig → Option (List FO × Sig)
  | _, [], s => some ([], s)
  | i, o :: rest, s => match compAlias vs N s o rest with
    | some s => compOps vs N ops (i + 1) rest s
    | none => match compG ops s o.guard, toFA s o.op, compD vs N s o.dst with
      | some g, some fa, some (d, s) => match compOps vs N ops (i + 1) rest s with
        | some (fos, s) => some (⟨fa, d, g, lightOp o.op, i⟩ :: fos, s)
        | none => none
      | _, _, _ => none

def compC (vs : List Nat) (N : Nat) : Code → Sig → Option (FC × Sig)
  | .skip, s => some (.skip, s)
  | .label _, s => some (.skip, s)
  | .region _ ops draw, s => match compOps vs N ops.toList 0 ops.toList (sig0 vs 0) with
    | some (fos, s) => if draw then (if drawOk ops.toList then some (.dreg ops.toList.length (beforeA ops.toList) fos, s) else none) else some (.reg fos, s)
    | none => none
  | .seq a b, s => match compC vs N a s with
    | some (fa, s) => match compC vs N b s with
      | some (fb, s) => some (.seq fa fb, s)
      | none => none
    | none => none
  | .cond c a b, s => match toO s c, compC vs N a s, compC vs N b s with
    | some o, some (fa, _), some (fb, _) => some (.cond o fa fb, sig0 vs 0)
    | _, _, _ => none
  | .block id b, s => match compC vs N b s with
    | some (fb, _) => some (.block id fb, sig0 vs 0)
    | none => none
  | .loop b, s => match compC vs N b (sig0 vs 0) with
    | some (fb, _) => some (.loop fb, sig0 vs 0)
    | none => none
  | .exit id, s => some (.exit id, s)
  | .ret, s => some (.ret, s)
  | _, _ => none

/-! ### that it is right -/
/-- What is called answers as the other does. -/
def Below' (c1 c2 : CallT) : Prop := ∀ t args H r, c1 t args H = some r → c2 t args H = some r

structure VarOk (vs : List Nat) (N : Nat) (V tm : List AV) : Prop where
  len : V.length = vs.length
  big : N ≤ tm.length
  at' : ∀ (j t : Nat), vs[j]? = some t → V.getD j .undef = tm.getD t .undef

theorem at_cons {s : Sig} {d t : Nat} {x : O} : Sig.at ((d, x) :: s) t = if d = t then some x else s.at t := by
  unfold Sig.at
  by_cases h : d = t
  · simp [h]
  · have : Nat.beq d t = false := by cases hb : Nat.beq d t with
      | false => rfl
      | true => exact absurd (Nat.eq_of_beq_eq_true hb) h
    simp [this, h]

theorem at_mem {s : Sig} {t : Nat} {o : O} (h : s.at t = some o) : (t, o) ∈ s := by
  unfold Sig.at at h
  simp only [Option.map_eq_some_iff] at h
  obtain ⟨p, h1, h2⟩ := h
  have h3 := List.mem_of_find?_eq_some h1
  have h4 := List.find?_some h1
  obtain ⟨a, b⟩ := p
  simp at h2; subst h2
  have := Nat.eq_of_beq_eq_true h4
  simp at this; subst this
  exact h3

theorem at_filter (f : Nat → Bool) : ∀ (s : Sig) (t : Nat), Sig.at (s.filter fun p => f p.1) t = if f t then s.at t else none
  | [], t => by simp [Sig.at]
  | (d, x) :: s, t => by
    have ih := at_filter f s t
    by_cases hd : f d = true
    · rw [List.filter_cons_of_pos (by simpa using hd), at_cons, at_cons, ih]
      by_cases h : d = t
      · subst h; simp [hd]
      · simp [h]
    · rw [List.filter_cons_of_neg (by simpa using hd), at_cons, ih]
      by_cases h : d = t
      · subst h; simp [hd]
      · simp [h]

theorem noV_at {s : Sig} {j t : Nat} {o : O} (h : (s.noV j).at t = some o) : s.at t = some o ∧ o.isV j = false := by
  unfold Sig.noV at h
  rw [at_filter (fun t => match s.at t with
    | some o => !o.isV j
    | none => true)] at h
  cases ha : s.at t with
  | none => simp [ha] at h
  | some o' =>
    simp only [ha] at h
    split at h
    · rename_i hb
      cases h
      exact ⟨rfl, by simpa using hb⟩
    · cases h

theorem shift_at : ∀ (s : Sig) (t : Nat), s.shift.at t = (s.at t).map O.shift
  | [], t => rfl
  | (d, x) :: s, t => by
    show Sig.at ((d, x.shift) :: Sig.shift s) t = _
    rw [at_cons, at_cons, shift_at s t]
    split <;> rfl

theorem sig0_mem : ∀ {vs : List Nat} {k t : Nat} {o : O}, (t, o) ∈ sig0 vs k → ∃ j, vs[j]? = some t ∧ o = .v (k + j)
  | [], k, t, o, h => by cases h
  | v :: vs, k, t, o, h => by
    rcases List.mem_cons.1 h with h | h
    · cases h; exact ⟨0, rfl, rfl⟩
    · obtain ⟨j, h1, rfl⟩ := sig0_mem h
      exact ⟨j + 1, h1, by rw [show k + 1 + j = k + (j + 1) by omega]⟩

theorem sig0_ok {vs : List Nat} {N : Nat} {L V tm : List AV} (h : VarOk vs N V tm) : SigOk (sig0 vs 0) L V tm := fun t o ho => by
  obtain ⟨j, h1, rfl⟩ := sig0_mem (at_mem ho)
  have := h.at' j t h1
  simpa [gO] using this

theorem idxIn_some {d : Nat} : ∀ {vs : List Nat} {k j : Nat}, idxIn d vs k = some j → ∃ i, j = k + i ∧ vs[i]? = some d
  | [], k, j, h => by cases h
  | v :: vs, k, j, h => by
    unfold idxIn at h
    split at h
    · rename_i hb
      cases h
      exact ⟨0, rfl, by simp [Nat.eq_of_beq_eq_true hb]⟩
    · obtain ⟨i, rfl, h2⟩ := idxIn_some h
      exact ⟨i + 1, by omega, h2⟩

theorem idxIn_none {d : Nat} : ∀ {vs : List Nat} {k : Nat}, idxIn d vs k = none → d ∉ vs
  | [], k, h => by simp
  | v :: vs, k, h => by
    unfold idxIn at h
    split at h
    · cases h
    · rename_i hb
      have := idxIn_none h
      simp only [List.mem_cons, not_or]
      refine ⟨fun e => hb (by subst e; simp), this⟩

/-- A value is put where the compiler says. -/
theorem compD_ok {vs : List Nat} (hnd : vs.Nodup) {N : Nat} {s s' : Sig} {dst : Option Nat} {d : FD} (hc : compD vs N s dst = some (d, s')) {L V tm : List AV} (hV : VarOk vs N V tm) (hs : SigOk s L V tm) (hvN : ∀ t ∈ vs, t < N) (v : AV) :
    SigOk s' (putFL d v L) (putFV d v V) (putT tm dst v) ∧ VarOk vs N (putFV d v V) (putT tm dst v) := by
  cases dst with
  | none =>
    cases hc
    exact ⟨hs, hV⟩
  | some d0 =>
    simp only [compD] at hc
    have hget : ∀ t, t ≠ d0 → (putT tm (some d0) v).getD t .undef = tm.getD t .undef := fun t ht => putT_getD (fun e => ht (by cases e; rfl))
    have hset : d0 < N → (putT tm (some d0) v).getD d0 .undef = v := fun h => by
      have := hV.big
      simp [putT, List.getD_eq_getElem?_getD, List.getElem?_set, show d0 < tm.length by omega]
    have hbig : N ≤ (putT tm (some d0) v).length := by simp [putT]; exact hV.big
    split at hc
    · rename_i j hj
      cases hc
      obtain ⟨i, rfl, hi⟩ := idxIn_some hj
      simp only [Nat.zero_add] at *
      have hiV : i < V.length := by rw [hV.len]; exact (List.getElem?_eq_some_iff.1 hi).1
      have hd0 := hvN d0 (List.mem_of_getElem? hi)
      have hVs : ∀ k, (V.set i v).getD k .undef = if k = i then v else V.getD k .undef := fun k => by
        simp only [List.getD_eq_getElem?_getD, List.getElem?_set]
        by_cases hk : k = i
        · subst hk; simp [hiV]
        · simp [hk, Ne.symm hk]
      refine ⟨fun t o ho => ?_, ⟨by simp [putFV, hV.len], hbig, fun k t hk => ?_⟩⟩
      · rw [at_cons] at ho
        split at ho
        · rename_i e; subst e
          cases ho
          rw [hset hd0]
          simp only [gO, putFV]
          rw [hVs]; simp
        · rename_i hne
          rw [hget t (Ne.symm hne)]
          obtain ⟨hat, hm⟩ := noV_at ho
          have := hs t o hat
          rw [← this]
          cases o with
          | l q => rfl
          | k x => rfl
          | v q =>
            have hq : q ≠ i := by
              intro e
              simp [O.isV, e] at hm
            simp only [gO, putFV]
            rw [hVs, if_neg hq]
      · simp only [putFV]
        rw [hVs]
        by_cases hki : k = i
        · subst hki
          rw [hi] at hk; cases hk
          rw [if_pos rfl, hset hd0]
        · rw [if_neg hki, hget t (fun e => ?_)]
          · exact hV.at' k t hk
          · subst e
            have hlt := (List.getElem?_eq_some_iff.1 hk).1
            have hlt2 := (List.getElem?_eq_some_iff.1 hi).1
            have e1 := (List.getElem?_eq_some_iff.1 hk).2
            have e2 := (List.getElem?_eq_some_iff.1 hi).2
            exact hki ((List.getElem?_inj hlt hnd).1 (hk.trans hi.symm))
    · rename_i hj
      split at hc
      · rename_i hd0
        cases hc
        have hnv := idxIn_none hj
        refine ⟨fun t o ho => ?_, ⟨hV.len, hbig, fun k t hk => ?_⟩⟩
        · rw [at_cons] at ho
          split at ho
          · rename_i e; subst e
            cases ho
            rw [hset hd0]
            simp [gO, putFL]
          · rename_i hne
            rw [hget t (Ne.symm hne)]
            rw [shift_at] at ho
            simp only [Option.map_eq_some_iff] at ho
            obtain ⟨o', h1, rfl⟩ := ho
            rw [← hs t o' h1]
            cases o' <;> simp [O.shift, gO, putFL, putFV]
        · rw [hget t (fun e => hnv (by subst e; exact List.mem_of_getElem? hk))]
          exact hV.at' k t hk
      · cases hc

theorem putF_alias {tm : List AV} {d : Nat} {v : AV} {t : Nat} : (putT tm (some d) v).getD t .undef = if t = d ∧ d < tm.length then v else tm.getD t .undef := by
  simp only [putT, List.getD_eq_getElem?_getD, List.getElem?_set]
  by_cases h : d = t
  · subst h
    by_cases hl : d < tm.length
    · simp [hl]
    · simp [hl]
  · simp [h, Ne.symm h]

/-- A value that is only moved is looked for where it came from. -/
theorem compAlias_ok {vs : List Nat} {N : Nat} {s s' : Sig} {o : Oper} {rest : List Oper} (hc : compAlias vs N s o rest = some s') {L V tm : List AV} (hV : VarOk vs N V tm) (hs : SigOk s L V tm) (E : Env) (call : CallT) (ops : List Oper) (slot : Option Nat) (H : Heap) :
    ∃ tm', runOpG E call ops slot o ⟨tm, H⟩ = some (⟨tm', H⟩, Acc.none) ∧ SigOk s' L V tm' ∧ VarOk vs N V tm' := by
  unfold compAlias at hc
  split at hc
  · rename_i t d hg hop hdst
    split at hc
    · rename_i x hx hat
      split at hc
      · rename_i hok
        simp only [Bool.and_eq_true] at hok
        cases hc
        have hd : d < N := Nat.le_of_ble_eq_true hok.2
        have hdl : d < tm.length := Nat.lt_of_lt_of_le hd hV.big
        refine ⟨putT tm (some d) (tm.getD t .undef), ?_, fun k q hk => ?_, ⟨hV.len, by simp [putT]; exact hV.big, fun k q hk => ?_⟩⟩
        · unfold runOpG wantedA
          rw [hg]
          simp only
          unfold runOp evalOp
          rw [hop]
          simp [primEff, applyEff, lightOp, hop, fW_eq, fS_eq, hdst, opA]
        · rw [putF_alias]
          rw [at_cons] at hk
          split at hk
          · rename_i e; subst e
            cases hk
            rw [if_pos ⟨rfl, hdl⟩]
            exact hs t x hat
          · rename_i hne
            rw [if_neg (fun h => hne h.1.symm)]
            exact hs k q hk
        · rw [putF_alias, if_neg (fun h => idxIn_none hx (by rw [← h.1]; exact List.mem_of_getElem? hk))]
          exact hV.at' k q hk
      · cases hc
    · cases hc
  · cases hc

theorem compG_ok {ops : List Oper} {s : Sig} {o : Oper} {g : Option (O × Bool)} (hc : compG ops s o.guard = some g) {L V tm : List AV} (hs : SigOk s L V tm) : wantedA ops tm o = wantedF g L V := by
  unfold compG at hc
  unfold wantedA wantedF
  split at hc
  · rename_i hg
    cases hc
    simp only [hg]
  · rename_i j want hg
    simp only [hg]
    split at hc
    · rename_i d hd
      simp only [Option.map_eq_some_iff] at hc
      obtain ⟨x, h1, rfl⟩ := hc
      simp only [hd, hs d x h1]
      rfl
    · cases hc

theorem effRes_ok {c1 c2 : CallT} (hb : Below' c1 c2) {slot : Option Nat} {light : Bool} {H H' : Heap} {acc acc' : Acc} {eff : Eff} {v : AV} (h : effRes c1 slot light H acc eff = some (v, H', acc')) (o : Oper) (tm : List AV) :
    applyEff c2 slot o ⟨tm, H⟩ acc eff = some (⟨putT tm o.dst v, H'⟩, acc') := by
  cases eff with
  | val x =>
    have : (v, H', acc') = (x, H, acc) := by
      cases light <;> simp [effRes, fV_eq, fW_eq] at h <;> simp [h]
    cases this
    cases hl : lightOp o.op <;> simp [applyEff, hl, fV_eq, fW_eq, fS_eq]
  | new ob f =>
    simp [effRes, fO_eq, fV_eq, fS_eq] at h
    obtain ⟨rfl, rfl, rfl⟩ := h
    simp [applyEff, done, fO_eq, fV_eq, fS_eq]
  | put nm ob x =>
    simp [effRes, fO_eq, fV_eq, fS_eq] at h
    obtain ⟨rfl, rfl, rfl⟩ := h
    simp [applyEff, done, fO_eq, fV_eq, fS_eq]
  | app nm ob n sz =>
    simp [effRes, fO_eq, fV_eq, fS_eq] at h
    obtain ⟨rfl, rfl, rfl⟩ := h
    simp [applyEff, done, fO_eq, fV_eq, fS_eq]
  | call t args =>
    simp [effRes, fS_eq] at h
    simp [applyEff, done, fV_eq, fS_eq, hb _ _ _ _ h]

/-- One operation. -/
theorem runFO_ok {E : Env} {c1 c2 : CallT} (hb : Below' c1 c2) {vs : List Nat} (hnd : vs.Nodup) {N : Nat} (hvN : ∀ t ∈ vs, t < N) {ops : List Oper} {s s' : Sig} {o : Oper} {g : Option (O × Bool)} {fa : FA} {d : FD} {i : Nat}
    (h1 : compG ops s o.guard = some g) (h2 : toFA s o.op = some fa) (h3 : compD vs N s o.dst = some (d, s')) {L V tm : List AV} {H : Heap} (hV : VarOk vs N V tm) (hs : SigOk s L V tm) {slot : Option Nat} {fs : FS} {acc : Acc}
    (h : runFO E c1 slot ⟨fa, d, g, lightOp o.op, i⟩ L V H = some (fs, acc)) :
    ∃ tm', runOpG E c2 ops slot o ⟨tm, H⟩ = some (⟨tm', fs.H⟩, acc) ∧ SigOk s' fs.L fs.V tm' ∧ VarOk vs N fs.V tm' := by
  unfold runFO at h
  unfold runOpG
  simp only [compG_ok h1 hs]
  split at h
  · rename_i hw
    simp only at hw
    simp only [hw]
    unfold runOp
    rw [toFA_ok hs h2]
    simp only at h
    cases hev : evalFA E L V H fa with
    | none => simp [hev] at h
    | some x =>
      simp only [hev] at h ⊢
      cases hp : primEff E H x with
      | none => simp [hp] at h
      | some q =>
        obtain ⟨eff, acc0⟩ := q
        simp only [hp] at h ⊢
        cases hr : effRes c1 slot (lightOp o.op) H acc0 eff with
        | none => simp [hr] at h
        | some q =>
          obtain ⟨v, H', acc'⟩ := q
          simp only [hr, putF_eq, Option.some.injEq, Prod.mk.injEq] at h
          obtain ⟨rfl, rfl⟩ := h
          obtain ⟨k1, k2⟩ := compD_ok hnd h3 hV hs hvN v
          exact ⟨putT tm o.dst v, effRes_ok hb hr o tm, k1, k2⟩
  · rename_i hw
    simp only at hw
    simp only [hw, putF_eq, Option.some.injEq, Prod.mk.injEq] at h ⊢
    obtain ⟨rfl, rfl⟩ := h
    obtain ⟨k1, k2⟩ := compD_ok hnd h3 hV hs hvN (.tup [])
    exact ⟨putT tm o.dst (.tup []), by simp [fS_eq], k1, k2⟩
  · cases h

/-- A row of operations. -/
theorem runFOs_ok {E : Env} {c1 c2 : CallT} (hb : Below' c1 c2) {vs : List Nat} (hnd : vs.Nodup) {N : Nat} (hvN : ∀ t ∈ vs, t < N) {ops : List Oper} : ∀ {rest : List Oper} {i : Nat} {s s' : Sig} {fos : List FO}, compOps vs N ops i rest s = some (fos, s') →
    ∀ {L V tm : List AV} {H : Heap}, VarOk vs N V tm → SigOk s L V tm → ∀ {fs : FS}, runFOs E c1 fos ⟨L, V, H⟩ = some fs →
    ∃ tm', runOps E c2 ops rest ⟨tm, H⟩ = some ⟨tm', fs.H⟩ ∧ SigOk s' fs.L fs.V tm' ∧ VarOk vs N fs.V tm'
  | [], i, s, s', fos, hc, L, V, tm, H, hV, hs, fs, h => by
    cases hc
    cases h
    exact ⟨tm, rfl, hs, hV⟩
  | o :: rest, i, s, s', fos, hc, L, V, tm, H, hV, hs, fs, h => by
    simp only [compOps] at hc
    split at hc
    · rename_i s1 ha
      obtain ⟨tm1, g1, g2, g3⟩ := compAlias_ok ha hV hs E c2 ops none H
      obtain ⟨tm2, k1, k2, k3⟩ := runFOs_ok hb hnd hvN hc g3 g2 h
      refine ⟨tm2, ?_, k2, k3⟩
      simp only [runOps, Option.bind_eq_bind, g1, Option.bind_some]
      exact k1
    · split at hc
      · rename_i g fa d s1 q1 q2 q3
        split at hc
        · rename_i fos1 s2 q4
          cases hc
          simp only [runFOs] at h
          split at h
          · rename_i fs1 acc hr
            obtain ⟨tm1, g1, g2, g3⟩ := runFO_ok hb hnd hvN q1 q2 q3 hV hs hr
            obtain ⟨tm2, k1, k2, k3⟩ := runFOs_ok hb hnd hvN q4 g3 g2 h
            refine ⟨tm2, ?_, k2, k3⟩
            simp only [runOps, Option.bind_eq_bind, g1, Option.bind_some]
            exact k1
          · cases h
        · cases hc
      · cases hc
end Go.Px
