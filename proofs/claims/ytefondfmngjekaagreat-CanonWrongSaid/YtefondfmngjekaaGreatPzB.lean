/- Values in one breath: what an operation that reaches nothing makes. -/
import Derived.Test.YtefondfmngjekaaGreatPzU
set_option linter.unusedVariables false
set_option linter.unusedSimpArgs false
namespace Go.Px
open Go

abbrev Ans := Option (AV × TH)
abbrev VZ := List AV → List AV → TH → (AV → Ans) → Ans

/-- 'v' makes what 'fa' makes, and reaches nothing. -/
def PureZ (E : Env) (fa : FA) (v : VZ) : Prop := ∀ L V H, ∃ r : Option AV, evalFT E L V H fa = r.map (fun x => (.val x, Acc.none)) ∧ ∀ c, v L V H c = match r with
  | some x => c x
  | none => none

theorem PureZ.of {E : Env} {fa : FA} {v : VZ} (r : List AV → List AV → Option AV) (h1 : ∀ L V H, evalFT E L V H fa = (r L V).map (fun x => (.val x, Acc.none))) (h2 : ∀ L V H c, v L V H c = match r L V with
  | some x => c x
  | none => none) : PureZ E fa v := fun L V H => ⟨r L V, h1 L V H, h2 L V H⟩

/-- A value that was reckoned some other way, in its normal form. -/
noncomputable def optV (x : Option AV) (c : AV → Ans) : Ans := @Option.rec AV (fun _ => Ans) none (fun v => fV v c) x
theorem optV_eq (x : Option AV) (c : AV → Ans) : optV x c = match x with
  | some x => c x
  | none => none := by
  cases x with
  | none => rfl
  | some v => exact fV_eq v c

noncomputable def vMv (x : O) : VZ := fun L V H c => gZ x L V c
theorem vMv_ok (E : Env) (x : O) : PureZ E (.mv x) (vMv x) := .of (fun L V => some (gO L V x)) (fun _ _ _ => rfl) fun L V H c => by simp [vMv, gZ_eq]

noncomputable def vPick (p a b : O) : VZ := fun L V H c => gZ p L V fun p => boolCZ p (gZ a L V c) (gZ b L V c) none
theorem vPick_ok (E : Env) (p a b : O) : PureZ E (.pick p a b) (vPick p a b) :=
  .of (fun L V => match gO L V p with
    | .bool c => some (if c then gO L V a else gO L V b)
    | _ => none) (fun L V H => by
    simp only [evalFT, evalFA]
    cases gO L V p <;> simp) fun L V H c => by
    simp only [vPick, gZ_eq, boolCZ_eq]
    cases gO L V p <;> try rfl
    rename_i b'
    cases b' <;> rfl

/-! ### two numbers -/
noncomputable def int2Z (a b : AV) (s : IntKind → Int → Int → Ans) (g : Ans) : Ans := intCZ a (fun k n => intCZ b (fun k' m => sameKZ k k' (s k n m) none) g) g

def IntOk (op : BinOp) (f : IntKind → Int → Int → (AV → Ans) → Ans) : Prop := (op ≠ .shl ∧ op ≠ .shr) ∧ ∀ k n m c, f k n m c = match intBin op k n m with
  | some x => c x
  | none => none

noncomputable def vInt (E : Env) (f : IntKind → Int → Int → (AV → Ans) → Ans) (op : BinOp) (t : TypeId) (cx cy : Bool) (x y : O) : VZ := fun L V H c =>
  gZ x L V fun a => gZ y L V fun b => int2Z a b (fun k n m => f k n m c) (optV (binB E op t cx cy a b) c)

theorem vInt_ok (E : Env) {f : IntKind → Int → Int → (AV → Ans) → Ans} {op : BinOp} (hf : IntOk op f) (t : TypeId) (cx cy : Bool) (x y : O) : PureZ E (.bin op t cx cy x y) (vInt E f op t cx cy x y) :=
  .of (fun L V => binB E op t cx cy (gO L V x) (gO L V y)) (fun _ _ _ => rfl) fun L V H c => by
    simp only [vInt, gZ_eq, int2Z, intCZ_eq, sameKZ_eq, optV_eq]
    obtain ⟨⟨h1, h2⟩, h3⟩ := hf
    cases hx : gO L V x <;> try rfl
    cases hy : gO L V y <;> try rfl
    rename_i k n k' m
    simp only
    rw [h3]
    have : binB E op t cx cy (.int k n) (.int k' m) = if k = k' then intBin op k n m else none := by
      cases op <;> first | rfl | exact absurd rfl h1 | exact absurd rfl h2
    rw [this]
    split <;> rfl

noncomputable def fAdd (k : IntKind) (n m : Int) (c : AV → Ans) : Ans := addZ n m fun r => wrapZ k r fun r => c (.int k r)
theorem fAdd_ok : IntOk .add fAdd := ⟨⟨by simp, by simp⟩, fun k n m c => by simp [fAdd, addZ_eq, wrapZ_eq, intBin]⟩
noncomputable def fSub (k : IntKind) (n m : Int) (c : AV → Ans) : Ans := fI (n - m) fun r => wrapZ k r fun r => c (.int k r)
theorem fSub_ok : IntOk .sub fSub := ⟨⟨by simp, by simp⟩, fun k n m c => by simp [fSub, fI_eq, wrapZ_eq, intBin]⟩
noncomputable def fLss (k : IntKind) (n m : Int) (c : AV → Ans) : Ans := ltZ n m fun r => c (.bool r)
theorem fLss_ok : IntOk .lss fLss := ⟨⟨by simp, by simp⟩, fun k n m c => by simp [fLss, ltZ_eq, intBin]⟩
noncomputable def fGtr (k : IntKind) (n m : Int) (c : AV → Ans) : Ans := ltZ m n fun r => c (.bool r)
theorem fGtr_ok : IntOk .gtr fGtr := ⟨⟨by simp, by simp⟩, fun k n m c => by simp [fGtr, ltZ_eq, intBin]⟩
noncomputable def fEql (k : IntKind) (n m : Int) (c : AV → Ans) : Ans := eqlZ n m fun r => c (.bool r)
theorem fEql_ok : IntOk .eql fEql := ⟨⟨by simp, by simp⟩, fun k n m c => by simp [fEql, eqlZ_eq, intBin]⟩
noncomputable def fNeq (k : IntKind) (n m : Int) (c : AV → Ans) : Ans := eqlZ n m fun r => ifZ r (c (.bool false)) (c (.bool true))
theorem fNeq_ok : IntOk .neq fNeq := ⟨⟨by simp, by simp⟩, fun k n m c => by
  simp only [fNeq, eqlZ_eq, ifZ_eq, intBin, bne]
  cases n == m <;> rfl⟩
noncomputable def fGen (op : BinOp) (k : IntKind) (n m : Int) (c : AV → Ans) : Ans := optV (intBin op k n m) c
theorem fGen_ok {op : BinOp} (h1 : op ≠ .shl) (h2 : op ≠ .shr) : IntOk op (fGen op) := ⟨⟨h1, h2⟩, fun k n m c => optV_eq _ _⟩

noncomputable def vBin (E : Env) (op : BinOp) (t : TypeId) (cx cy : Bool) (x y : O) : VZ := fun L V H c =>
  gZ x L V fun a => gZ y L V fun b => optV (binB E op t cx cy a b) c
theorem vBin_ok (E : Env) (op : BinOp) (t : TypeId) (cx cy : Bool) (x y : O) : PureZ E (.bin op t cx cy x y) (vBin E op t cx cy x y) :=
  .of (fun L V => binB E op t cx cy (gO L V x) (gO L V y)) (fun _ _ _ => rfl) fun L V H c => by simp only [vBin, gZ_eq, optV_eq]

noncomputable def binZ (E : Env) (op : BinOp) (t : TypeId) (cx cy : Bool) (x y : O) : VZ := match op with
  | .add => vInt E fAdd .add t cx cy x y
  | .sub => vInt E fSub .sub t cx cy x y
  | .lss => vInt E fLss .lss t cx cy x y
  | .gtr => vInt E fGtr .gtr t cx cy x y
  | .eql => vInt E fEql .eql t cx cy x y
  | .neq => vInt E fNeq .neq t cx cy x y
  | .shl => vBin E .shl t cx cy x y
  | .shr => vBin E .shr t cx cy x y
  | op => vInt E (fGen op) op t cx cy x y
theorem binZ_ok (E : Env) (op : BinOp) (t : TypeId) (cx cy : Bool) (x y : O) : PureZ E (.bin op t cx cy x y) (binZ E op t cx cy x y) := by
  cases op <;> first
    | exact vInt_ok E fAdd_ok t cx cy x y
    | exact vInt_ok E fSub_ok t cx cy x y
    | exact vInt_ok E fLss_ok t cx cy x y
    | exact vInt_ok E fGtr_ok t cx cy x y
    | exact vInt_ok E fEql_ok t cx cy x y
    | exact vInt_ok E fNeq_ok t cx cy x y
    | exact vBin_ok E _ t cx cy x y
    | exact vInt_ok E (fGen_ok (by simp) (by simp)) t cx cy x y

noncomputable def vUn (op : UnOp) (x : O) : VZ := fun L V H c => gZ x L V fun a => optV (unA op a) c
theorem vUn_ok (E : Env) (op : UnOp) (x : O) : PureZ E (.un op x) (vUn op x) := .of (fun L V => unA op (gO L V x)) (fun _ _ _ => rfl) fun L V H c => by simp only [vUn, gZ_eq, optV_eq]
noncomputable def vNot (x : O) : VZ := fun L V H c => gZ x L V fun a => boolCZ a (c (.bool false)) (c (.bool true)) none
theorem vNot_ok (E : Env) (x : O) : PureZ E (.un .not x) (vNot x) := .of (fun L V => unA .not (gO L V x)) (fun _ _ _ => rfl) fun L V H c => by
  simp only [vNot, gZ_eq, boolCZ_eq]
  cases gO L V x <;> try rfl
  rename_i b; cases b <;> rfl

/-! ### places -/
/-- Where a field lies, if it has cells. -/
def fieldAt (E : Env) (t : TypeId) (k : Nat) : Option Nat :=
  match E.ty t with
  | some i => match i.desc with
    | .struct fs => match fs[k]? with
      | some (off, ft) => match E.ty ft with
        | some fi => if fi.size = 0 then none else some off
        | none => none
      | none => none
    | _ => none
  | none => none

noncomputable def consZ (l : List AV) (n : Ans) (s : Ans) : Ans := @List.rec AV (fun _ => Ans) n (fun _ _ _ => s) l
theorem consZ_eq (l : List AV) (n s : Ans) : consZ l n s = if 0 < l.length then s else n := by cases l <;> simp [consZ]

noncomputable def vFieldAddr (off : Nat) (x : O) : VZ := fun L V H c => gZ x L V fun p =>
  ptrCZ p (fun cs => dropZ cs off fun l => consZ l none (c (.ref l))) (fun nm o => natZ (Nat.add o off) fun q => c (.loc nm q)) none
theorem vFieldAddr_ok {E : Env} {t : TypeId} {k off : Nat} (h : fieldAt E t k = some off) (x : O) : PureZ E (.fieldAddr t x k) (vFieldAddr off x) := by
  refine .of (fun L V => fieldAddrA E t (gO L V x) k) (fun _ _ _ => rfl) fun L V H c => ?_
  unfold fieldAt at h
  split at h
  · rename_i i hi
    split at h
    · rename_i fs hd
      split at h
      · rename_i o' ft hk
        split at h
        · rename_i fi hf
          split at h
          · cases h
          · rename_i h0
            cases h
            simp only [vFieldAddr, gZ_eq, ptrCZ_eq, fieldAddrA, hi, hd, hk, hf, h0, Option.bind_eq_bind, Option.bind_some, if_false]
            cases gO L V x with
            | ref cs =>
              simp only [dropZ_eq, consZ_eq, List.length_drop]
              by_cases hlt : off < cs.length
              · rw [if_pos (by omega), if_pos hlt]; rfl
              · rw [if_neg (by omega), if_neg hlt]
            | loc nm o => simp only [natZ_eq]; rfl
            | _ => rfl
        · cases h
      · cases h
    · cases h
  · cases h

/-- What is pointed at, of so many cells. -/
def loadSz (E : Env) (t : TypeId) : Option (Nat × Bool) := (E.ty t).map fun i => (i.size, i.desc.isAgg)

noncomputable def mkVZ (agg : Bool) (cs : List AV) (c : AV → Ans) : Ans := ifZ agg (c (.agg cs)) (@List.rec AV (fun _ => Ans) none (fun v t _ => @List.rec AV (fun _ => Ans) (c v) (fun _ _ _ => none) t) cs)
theorem mkVZ_eq (agg : Bool) (cs : List AV) (c : AV → Ans) : mkVZ agg cs c = match mkV agg cs with
  | some x => c x
  | none => none := by
  unfold mkVZ mkV
  rw [ifZ_eq]
  cases agg
  · simp only [Bool.false_eq_true, if_false]
    rcases cs with _ | ⟨v, _ | ⟨u, t⟩⟩ <;> rfl
  · rfl

noncomputable def vField (off sz : Nat) (agg : Bool) (x : O) : VZ := fun L V H c => gZ x L V fun p =>
  aggCZ p (fun cs => dropZ cs off fun l => takeZ sz none l fun r => mkVZ agg r c) none
def fieldSz (E : Env) (t : TypeId) (k : Nat) : Option (Nat × Nat × Bool) :=
  match E.ty t with
  | some i => match i.desc with
    | .struct fs => match fs[k]? with
      | some (off, ft) => match E.ty ft with
        | some fi => if fi.size = 0 then none else some (off, fi.size, fi.desc.isAgg)
        | none => none
      | none => none
    | _ => none
  | none => none
theorem vField_ok {E : Env} {t : TypeId} {k off sz : Nat} {agg : Bool} (h : fieldSz E t k = some (off, sz, agg)) (x : O) : PureZ E (.field t x k) (vField off sz agg x) := by
  refine .of (fun L V => fieldA E t (gO L V x) k) (fun _ _ _ => rfl) fun L V H c => ?_
  unfold fieldSz at h
  split at h
  · rename_i i hi
    split at h
    · rename_i fs hd
      split at h
      · rename_i o' ft hk
        split at h
        · rename_i fi hf
          split at h
          · cases h
          · rename_i h0
            cases h
            simp only [vField, gZ_eq, aggCZ_eq, fieldA, hi, hd, hk, hf, Option.bind_eq_bind, Option.bind_some]
            cases gO L V x with
            | agg cs =>
              simp only [dropZ_eq, takeZ_eq, List.length_drop, mkVZ_eq, Option.bind_some]
              by_cases hle : off + fi.size ≤ cs.length
              · rw [if_pos (by omega), if_pos hle]
              · rw [if_neg (by omega), if_neg hle]
            | _ => rfl
        · cases h
      · cases h
    · cases h
  · cases h

noncomputable def vExtract (i : Nat) (x : O) : VZ := fun L V H c => gZ x L V fun p => tupCZ p (fun vs => dropZ vs i fun l => @List.rec AV (fun _ => Ans) none (fun v _ _ => c v) l) none
theorem vExtract_ok (E : Env) (i : Nat) (x : O) : PureZ E (.extract x i) (vExtract i x) :=
  .of (fun L V => match gO L V x with
    | .tup vs => vs[i]?
    | _ => none) (fun L V H => by simp only [evalFT, evalFA]; cases gO L V x <;> rfl) fun L V H c => by
    simp only [vExtract, gZ_eq, tupCZ_eq]
    cases gO L V x with
    | tup vs =>
      simp only [dropZ_eq]
      rcases Nat.lt_or_ge i vs.length with h | h
      · rw [List.drop_eq_getElem_cons h, List.getElem?_eq_getElem h]
      · rw [List.drop_of_length_le h, List.getElem?_eq_none h]
    | _ => rfl

/-- An element's place in a slice: its elements have so many cells. -/
def sliceSz (E : Env) (t : TypeId) : Option Nat :=
  match E.ty t with
  | some i => match i.desc with
    | .slice e => (E.ty e).map TyI.size
    | _ => none
  | none => none

noncomputable def inZ (n : Int) (len : Nat) (s : Nat → Ans) : Ans := Int.casesOn n (fun m => natZ m fun m => ifZ (Nat.blt m len) (s m) none) (fun _ => none)
theorem inZ_eq (n : Int) (len : Nat) (s : Nat → Ans) : inZ n len s = if 0 ≤ n ∧ n < len then s n.toNat else none := by
  cases n with
  | ofNat m =>
    show natZ m (fun m => ifZ (Nat.blt m len) (s m) none) = _
    rw [natZ_eq, ifZ_eq]
    by_cases h : m < len
    · rw [if_pos (show Nat.blt m len = true from Nat.ble_eq_true_of_le h), if_pos ⟨Int.natCast_nonneg m, by simpa using h⟩]; rfl
    · rw [if_neg (show ¬ (Nat.blt m len = true) from fun h2 => h (Nat.le_of_ble_eq_true h2)), if_neg (fun h2 => h (by simpa using h2.2))]
  | negSucc m => rw [if_neg (fun h => absurd h.1 (by simp))]; rfl

noncomputable def vIndexAddr (sz : Nat) (x i : O) : VZ := fun L V H c => gZ x L V fun p => gZ i L V fun j => intCZ j (fun _ n =>
  slCZ p (fun len cs _ => inZ n len fun m => dropZ cs (Nat.mul m sz) fun l => consZ l none (c (.ref l)))
    (fun nm off len sz' => inZ n len fun m => ifZ (Nat.beq sz' sz) (natZ (Nat.add off (Nat.mul m sz)) fun q => c (.loc nm q)) none) none) none
theorem vIndexAddr_ok {E : Env} {t : TypeId} {sz : Nat} (h : sliceSz E t = some sz) (x i : O) : PureZ E (.indexAddr t x i) (vIndexAddr sz x i) := by
  refine .of (fun L V => indexAddrA E t (gO L V x) (gO L V i)) (fun _ _ _ => rfl) fun L V H c => ?_
  unfold sliceSz at h
  split at h
  · rename_i ti hi
    split at h
    · rename_i e hd
      simp only [Option.map_eq_some_iff] at h
      obtain ⟨ei, he, rfl⟩ := h
      simp only [vIndexAddr, gZ_eq, intCZ_eq, slCZ_eq, indexAddrA, hi, Option.bind_eq_bind, Option.bind_some, hd]
      cases gO L V i with
      | int k n =>
        simp only [Option.bind_some]
        cases gO L V x with
        | sl len cs f =>
          simp only [inZ_eq, dropZ_eq, consZ_eq, List.length_drop, he, Option.bind_some]
          by_cases h1 : 0 ≤ n ∧ n < len
          · rw [if_pos h1]
            by_cases h2 : n.toNat * ei.size < cs.length
            · rw [if_pos (show 0 < cs.length - Nat.mul n.toNat ei.size from Nat.sub_pos_of_lt h2), if_pos ⟨h1.1, h1.2, h2⟩]; rfl
            · rw [if_neg (show ¬ (0 < cs.length - Nat.mul n.toNat ei.size) from fun h3 => h2 (Nat.lt_of_sub_pos h3)), if_neg (fun h3 => h2 h3.2.2)]
          · rw [if_neg h1, if_neg (fun h3 => h1 ⟨h3.1, h3.2.1⟩)]
        | own nm off len sz' =>
          simp only [inZ_eq, natZ_eq, ifZ_eq, he, Option.bind_some]
          by_cases h1 : 0 ≤ n ∧ n < len
          · rw [if_pos h1]
            by_cases h2 : sz' = ei.size
            · rw [if_pos (by rw [h2]; exact Nat.beq_refl _), if_pos ⟨h1.1, h1.2, h2⟩]; rfl
            · rw [if_neg (fun h3 => h2 (Nat.eq_of_beq_eq_true h3)), if_neg (fun h3 => h2 h3.2.2)]
          · rw [if_neg h1, if_neg (fun h3 => h1 ⟨h3.1, h3.2.1⟩)]
        | _ => rfl
      | _ => rfl
    · cases h
  · cases h

/-- One number to another kind. -/
def convK (E : Env) (s d : TypeId) : Option IntKind :=
  match E.ty s, E.ty d with
  | some i, some j => match i.desc, j.desc with
    | .int _, .int k => some k
    | _, _ => none
  | _, _ => none
noncomputable def vConv (k : IntKind) (x : O) : VZ := fun L V H c => gZ x L V fun p => intCZ p (fun _ n => wrapZ k n fun n => c (.int k n)) none
theorem vConv_ok {E : Env} {s d : TypeId} {k : IntKind} (h : convK E s d = some k) (x : O) : PureZ E (.conv s d x) (vConv k x) := by
  unfold convK at h
  split at h
  · rename_i i j hi hj
    split at h
    · rename_i k0 k1 h1 h2
      cases h
      refine .of (fun L V => match gO L V x with
        | .int _ n => some (.int k (k.wrap n))
        | _ => none) (fun L V H => ?_) fun L V H c => ?_
      · simp only [evalFT, evalFA, convA, hi, hj, Option.bind_eq_bind, Option.bind_some, h1, h2]
        cases gO L V x <;> rfl
      · simp only [vConv, gZ_eq, intCZ_eq]
        cases gO L V x with
        | int k' n => simp only [wrapZ_eq]
        | _ => rfl
    · cases h
  · cases h

/-- Is it no nil pointer? -/
noncomputable def nilCZ (v : AV) (s d : Ans) : Ans := AV.casesOn (motive_1 := fun _ => Ans) v d (fun _ => d) (fun _ _ => d) (fun _ => d) (fun _ _ _ => d) (fun _ _ _ _ => d) (fun _ => d) (fun _ => d) (fun _ _ => s) (fun _ => d) d d (fun _ _ => d) (fun _ => s) (fun _ _ => s) d (fun _ => d) d (fun _ _ _ => d)
noncomputable def vNilCheck (x : O) : VZ := fun L V H c => gZ x L V fun p => nilCZ p (c p) none
theorem vNilCheck_ok (E : Env) (x : O) : PureZ E (.nilCheck x) (vNilCheck x) :=
  .of (fun L V => match gO L V x with
    | .ref cs => some (.ref cs)
    | .loc nm off => some (.loc nm off)
    | .clo f caps => some (.clo f caps)
    | _ => none) (fun L V H => by simp only [evalFT, evalFA]; cases gO L V x <;> rfl) fun L V H c => by
    simp only [vNilCheck, gZ_eq]
    cases gO L V x <;> rfl

noncomputable def lenNZ (l : List Nat) : Nat → (Nat → Ans) → Ans :=
  @List.rec Nat (fun _ => Nat → (Nat → Ans) → Ans) (fun a c => c a) (fun _ _ ih a c => natZ (Nat.add a 1) fun a => ih a c) l
theorem lenNZ_eq : ∀ (l : List Nat) (a : Nat) (c : Nat → Ans), lenNZ l a c = c (a + l.length)
  | [], a, c => rfl
  | _ :: l, a, c => by
    show natZ (Nat.add a 1) (fun a => lenNZ l a c) = _
    rw [natZ_eq, lenNZ_eq l]
    congr 1
    simp only [List.length_cons, Nat.add_eq]
    omega

def lenKind (E : Env) (t : TypeId) : Option Bool :=
  match E.ty t with
  | some i => match i.desc with
    | .str => some true
    | .slice _ => some false
    | _ => none
  | none => none
noncomputable def vLenS (x : O) : VZ := fun L V H c => gZ x L V fun p => strCZ p (fun s => lenNZ s 0 fun n => c (.int .i64 (.ofNat n))) none
noncomputable def vLenL (x : O) : VZ := fun L V H c => gZ x L V fun p => slCZ p (fun n _ _ => c (.int .i64 (.ofNat n))) (fun _ _ n _ => c (.int .i64 (.ofNat n))) none
theorem vLenS_ok {E : Env} {t : TypeId} (h : lenKind E t = some true) (x : O) : PureZ E (.len t x) (vLenS x) := by
  unfold lenKind at h
  split at h
  · rename_i i hi
    split at h
    · rename_i hd
      refine .of (fun L V => match gO L V x with
        | .str s => some (.int .i64 s.length)
        | _ => none) (fun L V H => ?_) fun L V H c => ?_
      · simp only [evalFT, evalFA, lenA, hi, Option.bind_eq_bind, Option.bind_some, hd]
        cases gO L V x <;> rfl
      · simp only [vLenS, gZ_eq, strCZ_eq]
        cases gO L V x with
        | str s => simp only [lenNZ_eq, Nat.zero_add]; rfl
        | _ => rfl
    · cases h
    · cases h
  · cases h
theorem vLenL_ok {E : Env} {t : TypeId} (h : lenKind E t = some false) (x : O) : PureZ E (.len t x) (vLenL x) := by
  unfold lenKind at h
  split at h
  · rename_i i hi
    split at h
    · cases h
    · rename_i e hd
      refine .of (fun L V => match gO L V x with
        | .sl n _ _ => some (.int .i64 n)
        | .own _ _ n _ => some (.int .i64 n)
        | _ => none) (fun L V H => ?_) fun L V H c => ?_
      · simp only [evalFT, evalFA, lenA, hi, Option.bind_eq_bind, Option.bind_some, hd]
        cases gO L V x <;> rfl
      · simp only [vLenL, gZ_eq, slCZ_eq]
        cases gO L V x <;> rfl
    · cases h
  · cases h

/-- Whichever operation that reaches nothing. -/
noncomputable def pureZ (E : Env) : FA → Option VZ
  | .mv x => some (vMv x)
  | .pick a b c => some (vPick a b c)
  | .bin op t cx cy x y => some (binZ E op t cx cy x y)
  | .un .not x => some (vNot x)
  | .un op x => some (vUn op x)
  | .fieldAddr t x k => match fieldAt E t k with
    | some off => some (vFieldAddr off x)
    | none => none
  | .field t x k => match fieldSz E t k with
    | some (off, sz, agg) => some (vField off sz agg x)
    | none => none
  | .extract x i => some (vExtract i x)
  | .indexAddr t x i => match sliceSz E t with
    | some sz => some (vIndexAddr sz x i)
    | none => none
  | .conv s d x => match convK E s d with
    | some k => some (vConv k x)
    | none => none
  | .nilCheck x => some (vNilCheck x)
  | .len t x => match lenKind E t with
    | some true => some (vLenS x)
    | some false => some (vLenL x)
    | none => none
  | _ => none
theorem pureZ_ok {E : Env} {fa : FA} {v : VZ} (h : pureZ E fa = some v) : PureZ E fa v := by
  cases fa <;> simp only [pureZ] at h <;> try (cases h; done)
  case mv x => cases h; exact vMv_ok E x
  case pick a b c => cases h; exact vPick_ok E a b c
  case bin op t cx cy x y => cases h; exact binZ_ok E op t cx cy x y
  case un op x =>
    cases op <;> simp only at h <;> cases h <;> first | exact vNot_ok E x | exact vUn_ok E _ x
  case fieldAddr t x k =>
    split at h
    · rename_i off hq; cases h; exact vFieldAddr_ok hq x
    · cases h
  case field t x k =>
    split at h
    · rename_i off sz agg hq; cases h; exact vField_ok hq x
    · cases h
  case extract x i => cases h; exact vExtract_ok E i x
  case indexAddr t x i =>
    split at h
    · rename_i sz hq; cases h; exact vIndexAddr_ok hq x i
    · cases h
  case conv s d x =>
    split at h
    · rename_i k hq; cases h; exact vConv_ok hq x
    · cases h
  case nilCheck x => cases h; exact vNilCheck_ok E x
  case len t x =>
    split at h
    · rename_i hq; cases h; exact vLenS_ok hq x
    · rename_i hq; cases h; exact vLenL_ok hq x
    · cases h
end Go.Px
