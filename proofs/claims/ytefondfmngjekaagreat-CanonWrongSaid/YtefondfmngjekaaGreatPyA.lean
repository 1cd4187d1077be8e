/- A faster way to reckon what the abstract machine does: code whose operands are found already. -/
import Derived.Test.YtefondfmngjekaaGreatPxT
set_option linter.unusedVariables false
set_option linter.unusedSimpArgs false
namespace Go.Px
open Go

/-- An operand: the region's own values (the newest first), the function's variables, a constant. -/
inductive O where
  | l (i : Nat)
  | v (j : Nat)
  | k (x : AV)
  deriving Inhabited

def gO (L V : List AV) : O → AV
  | .l i => L.getD i .undef
  | .v j => V.getD j .undef
  | .k x => x

inductive FA where
  | mv (x : O)
  | pick (c a b : O)
  | alloc (t : TypeId)
  | box (t : TypeId) (x : O)
  | build (t : TypeId) (ps : List (Nat × O))
  | buildSlice (t : TypeId) (n : Nat) (ps : List (Nat × O))
  | load (t : TypeId) (a : O)
  | store (t : TypeId) (a x : O)
  | nilCheck (x : O)
  | bin (op : BinOp) (t : TypeId) (cx cy : Bool) (x y : O)
  | un (op : UnOp) (x : O)
  | conv (s d : TypeId) (x : O)
  | mkIface (t : TypeId) (x : O)
  | mkFunc (f : FuncId) (cs : List O)
  | mkMap (t : TypeId)
  | slice (t : TypeId) (x : O) (lo hi mx : Option O)
  | fieldAddr (t : TypeId) (x : O) (k : Nat)
  | field (t : TypeId) (x : O) (k : Nat)
  | indexAddr (t : TypeId) (x i : O)
  | index (t : TypeId) (x i : O)
  | lookup (t : TypeId) (x i : O) (ok : Bool)
  | mapUp (t : TypeId) (x i y : O)
  | assert (x : O) (t : TypeId) (ok : Bool)
  | extract (x : O) (i : Nat)
  | call (f : FuncId) (args : List O)
  | callv (x : O) (args : List O)
  | len (t : TypeId) (x : O)
  | append (t t2 : TypeId) (s x : O)
  | most (big : Bool) (xs : List O)
  | ext (k : XK) (xs : List O)
  /-- What is not taken: it never runs. -/
  | fail
  deriving Inhabited

def binB0 (E : Env) (op : BinOp) (t : TypeId) (cx cy : Bool) (x y : AV) : Option AV :=
  match op, x, y with
  | .shl, .int k a, .int _ b => if b < 0 then Option.none else some (.int k (k.wrap (a * 2 ^ (min b.toNat k.bits))))
  | .shr, .int k a, .int _ b => if b < 0 then Option.none else some (.int k (a.fdiv (2 ^ (min b.toNat k.bits))))
  | _, .int k a, .int k' b => if k = k' then intBin op k a b else Option.none
  | _, .str a, .str b => strBin op a b
  | .eql, .nilIface, .nilIface => if cx || cy then (eqA E 20 t .nilIface .nilIface).map .bool else Option.none
  | .neq, .nilIface, .nilIface => if cx || cy then (eqA E 20 t .nilIface .nilIface).map fun b => .bool !b else Option.none
  | .eql, x, y => (eqA E 20 t x y).map .bool
  | .neq, x, y => (eqA E 20 t x y).map fun b => .bool !b
  | _, _, _ => Option.none

def binB (E : Env) (op : BinOp) (t : TypeId) (cx cy : Bool) (x y : AV) : Option AV :=
  match x with
  | .res k r M => resA op k r M y
  | x => binB0 E op t cx cy x y

theorem binB_eq (E : Env) (op : BinOp) (t : TypeId) (xo yo : Operand) (x y : AV) : binA E op t xo yo x y = binB E op t (isConstO xo) (isConstO yo) x y := rfl

def calleeV (args : List AV) : AV → Option (Eff × Acc)
  | .clo f caps => some (.call (.func f) (args ++ caps), Acc.none)
  | .yield l => some (.call (.yield l) (args ++ []), Acc.none)
  | _ => none

def evalFA (E : Env) (L V : List AV) (H : Heap) (fa : FA) : Option (Eff × Acc) :=
  let ρ := gO L V
  let v (x : Option AV) : Option (Eff × Acc) := x.map fun x => (.val x, Acc.none)
  let va (x : Option (AV × Acc)) : Option (Eff × Acc) := x.map fun (x, a) => (.val x, a)
  match fa with
  | .mv x => v (some (ρ x))
  | .pick c a b => match ρ c with
    | .bool c => v (some (if c then ρ a else ρ b))
    | _ => Option.none
  | .alloc t => (E.ty t).bind fun i => some (.new (.row t i.zero false) (fun nm => .loc nm 0), Acc.none)
  | .box t x => (E.ty t).bind fun _ => some (.new (.row t (cellsOf (ρ x)) false) (fun nm => .loc nm 0), Acc.none)
  | .build t parts => v (buildA E t (parts.map fun (i, x) => (i, ρ x)))
  | .buildSlice t len parts => (buildSliceA E t len (parts.map fun (i, x) => (i, ρ x))).map (·, Acc.none)
  | .load t a => va (loadA E H t (ρ a))
  | .store t a x => storeA E H t (ρ a) (ρ x)
  | .nilCheck x => match ρ x with
    | .ref cs => v (some (.ref cs))
    | .loc nm off => v (some (.loc nm off))
    | .clo f caps => v (some (.clo f caps))
    | _ => Option.none
  | .bin op t cx cy x y => v (binB E op t cx cy (ρ x) (ρ y))
  | .un op x => v (unA op (ρ x))
  | .conv src dst x => convA E H src dst (ρ x)
  | .mkIface t x => (E.ty t).bind fun i => match i.desc with
    | .iface => Option.none
    | _ => v (some (.iface t (ρ x)))
  | .mkFunc f captured => v (some (.clo f (captured.map ρ)))
  | .mkMap t => (E.ty t).bind fun i => match i.desc with
    | .map k e => some (.new (.map k e [] [] 0) (fun nm => .map nm), Acc.none)
    | _ => Option.none
  | .slice t x lo hi mx => v (sliceA E t (ρ x) (lo.map ρ) (hi.map ρ) (mx.map ρ))
  | .fieldAddr t x k => v (fieldAddrA E t (ρ x) k)
  | .field t x k => v (fieldA E t (ρ x) k)
  | .indexAddr t x i => v (indexAddrA E t (ρ x) (ρ i))
  | .index t x i => v (indexA E t (ρ x) (ρ i))
  | .lookup t x i ok => va (lookupA E H t (ρ x) (ρ i) ok)
  | .mapUp t x i y => updateA E H t (ρ x) (ρ i) (ρ y)
  | .assert x t ok => v (assertA E (ρ x) t ok)
  | .extract t i => match ρ t with
    | .tup vs => v (vs[i]?)
    | _ => Option.none
  | .call f args => some (.call (.func f) (args.map ρ ++ []), Acc.none)
  | .callv x args => calleeV (args.map ρ) (ρ x)
  | .len t x => va (lenA E H t (ρ x))
  | .append t t2 s x => (E.ty t2).bind fun i => match i.desc with
    | .slice _ | .str => appendA E H t (ρ s) (ρ x)
    | .int _ => extA E H (.appendZ t) [ρ s, ρ x]
    | _ => Option.none
  | .most big xs => v (mostA big (xs.map ρ))
  | .ext k xs => extA E H k (xs.map ρ)
  | .fail => Option.none

/-! ### finding the operands -/
abbrev Sig := List (Nat × O)

def Sig.at (s : Sig) (t : Nat) : Option O := (s.find? fun p => Nat.beq p.1 t).map (·.2)

def toO (s : Sig) : Operand → Option O
  | .tmp t => s.at t
  | .const v => some (.k (ofVal v))
  | .func f => some (.k (.clo f []))
  | .global _ => none

def toOs (s : Sig) : List Operand → Option (List O)
  | [] => some []
  | x :: xs => match toO s x, toOs s xs with
    | some o, some os => some (o :: os)
    | _, _ => none

def toPs (s : Sig) : List (Nat × Operand) → Option (List (Nat × O))
  | [] => some []
  | (i, x) :: xs => match toO s x, toPs s xs with
    | some o, some os => some ((i, o) :: os)
    | _, _ => none

def toM (s : Sig) : Option Operand → Option (Option O)
  | none => some none
  | some x => (toO s x).map some

def toFA (s : Sig) : Op → Option FA
  | .move x | .assign x => (toO s x).map .mv
  | .pick c a b => match toO s c, toO s a, toO s b with
    | some c, some a, some b => some (.pick c a b)
    | _, _, _ => none
  | .alloc t => some (.alloc t)
  | .box t x => (toO s x).map (.box t)
  | .build t ps => (toPs s ps.toList).map (.build t)
  | .buildSlice t n ps => (toPs s ps.toList).map (.buildSlice t n)
  | .load t a => (toO s a).map (.load t)
  | .store t a x => match toO s a, toO s x with
    | some a, some x => some (.store t a x)
    | _, _ => none
  | .nilCheck x => (toO s x).map .nilCheck
  | .binOp op t x y _ => match toO s x, toO s y with
    | some x', some y' => some (.bin op t (isConstO x) (isConstO y) x' y')
    | _, _ => none
  | .unOp op _ x => (toO s x).map (.un op)
  | .convert a b x => (toO s x).map (.conv a b)
  | .makeInterface t x => (toO s x).map (.mkIface t)
  | .makeFunc (.func f) first cs => if first.size = 0 then (toOs s cs.toList).map (.mkFunc f) else none
  | .makeMap t none => some (.mkMap t)
  | .slice t x lo hi mx => match toO s x, toM s lo, toM s hi, toM s mx with
    | some x, some lo, some hi, some mx => some (.slice t x lo hi mx)
    | _, _, _, _ => none
  | .fieldAddr t x k => (toO s x).map (.fieldAddr t · k)
  | .field t x k => (toO s x).map (.field t · k)
  | .indexAddr t x i => match toO s x, toO s i with
    | some x, some i => some (.indexAddr t x i)
    | _, _ => none
  | .index t x i => match toO s x, toO s i with
    | some x, some i => some (.index t x i)
    | _, _ => none
  | .lookup t x i ok => match toO s x, toO s i with
    | some x, some i => some (.lookup t x i ok)
    | _, _ => none
  | .mapUpdate t x i y => match toO s x, toO s i, toO s y with
    | some x, some i, some y => some (.mapUp t x i y)
    | _, _, _ => none
  | .typeAssert x _ t ok => (toO s x).map (.assert · t ok)
  | .extract x i => (toO s x).map (.extract · i)
  | .call c => match c.callee with
    | .value (.func f) => (toOs s c.args.toList).map (.call f)
    | .value (.tmp t) => match s.at t, toOs s c.args.toList with
      | some x, some as => some (.callv x as)
      | _, _ => none
    | .builtin .len => match c.argTypes.toList, c.args.toList with
      | [t], [x] => (toO s x).map (.len t)
      | _, _ => none
    | .builtin .append => match c.argTypes.toList, c.args.toList with
      | [t, t2], [a, x] => match toO s a, toO s x with
        | some a, some x => some (.append t t2 a x)
        | _, _ => none
      | _, _ => none
    | .builtin .min => (toOs s c.args.toList).map (.most false)
    | .builtin .max => (toOs s c.args.toList).map (.most true)
    | .builtin b => match c.argTypes.toList with
      | t :: _ => match builtinX b t with
        | some k => (toOs s c.args.toList).map (.ext k)
        | none => some .fail
      | [] => some .fail
    | .invoke _ _ => some .fail
    | _ => none
  | .range t x => (toO s x).map fun x => .ext (.range t) [x]
  | .next x b => (toO s x).map fun x => .ext (.next b) [x]
  | .entry x => (toO s x).map fun x => .ext .entry [x]
  | .mapEntry t x k => match toO s x, toO s k with
    | some x, some k => some (.ext (.mapEntry t) [x, k])
    | _, _ => none
  | .entryStore _ x k y => match toO s x, toO s k, toO s y with
    | some x, some k, some y => some (.ext .entryStore [x, k, y])
    | _, _, _ => none
  | .makeSlice t n c => match toO s n, toO s c with
    | some n, some c => some (.ext (.makeSlice t) [n, c])
    | _, _ => none
  | .makeMap _ (some _) | .insert .. | .ready _ | .waits _ | .sliceToArrayPointer .. | .makeChan .. | .panic _ | .recv .. | .send .. | .go _ | .defer _ | .select .. => some .fail
  | _ => none

/-- What is found is there. -/
def SigOk (s : Sig) (L V tm : List AV) : Prop := ∀ t o, s.at t = some o → gO L V o = tm.getD t .undef

section
variable {s : Sig} {L V tm : List AV}
theorem toO_ok (h : SigOk s L V tm) {x : Operand} {o : O} (hx : toO s x = some o) : gO L V o = opA tm x := by
  cases x with
  | tmp t => exact h t o hx
  | const v => cases hx; rfl
  | func f => cases hx; rfl
  | global g => cases hx

theorem toOs_ok (h : SigOk s L V tm) : ∀ {xs : List Operand} {os : List O}, toOs s xs = some os → os.map (gO L V) = xs.map (opA tm)
  | [], os, hx => by simp [toOs] at hx; subst hx; rfl
  | x :: xs, os, hx => by
    simp only [toOs] at hx
    split at hx
    · rename_i o os' h1 h2
      cases hx
      simp [toO_ok h h1, toOs_ok h h2]
    · cases hx

theorem toPs_ok (h : SigOk s L V tm) : ∀ {xs : List (Nat × Operand)} {os : List (Nat × O)}, toPs s xs = some os → (os.map fun (i, x) => (i, gO L V x)) = xs.map fun (i, x) => (i, opA tm x)
  | [], os, hx => by simp [toPs] at hx; subst hx; rfl
  | (i, x) :: xs, os, hx => by
    simp only [toPs] at hx
    split at hx
    · rename_i o os' h1 h2
      cases hx
      simp [toO_ok h h1, toPs_ok h h2]
    · cases hx

theorem toM_ok (h : SigOk s L V tm) {x : Option Operand} {o : Option O} (hx : toM s x = some o) : o.map (gO L V) = x.map (opA tm) := by
  cases x with
  | none => simp [toM] at hx; subst hx; rfl
  | some x =>
    simp only [toM, Option.map_eq_some_iff] at hx
    obtain ⟨o', h1, rfl⟩ := hx
    simp [toO_ok h h1]

theorem toFA_ok {E : Env} {H : Heap} (h : SigOk s L V tm) {o : Oper} {fa : FA} (hf : toFA s o.op = some fa) : evalOp E tm H o = evalFA E L V H fa := by
  have one : ∀ {x : Operand} {f : O → FA}, (toO s x).map f = some fa → ∃ o, fa = f o ∧ gO L V o = opA tm x := fun hx => by
    simp only [Option.map_eq_some_iff] at hx
    obtain ⟨o', h1, rfl⟩ := hx
    exact ⟨o', rfl, toO_ok h h1⟩
  unfold evalOp
  cases hop : o.op <;> rw [hop] at hf <;> simp only [toFA] at hf <;> try (first | (cases hf; done) | (cases hf; rfl))
  case move x => obtain ⟨o, rfl, e⟩ := one hf; (simp only [evalFA, e] <;> rfl)
  case assign x => obtain ⟨o, rfl, e⟩ := one hf; (simp only [evalFA, e] <;> rfl)
  case pick c a b =>
    split at hf
    · rename_i h1 h2 h3
      cases hf
      (simp only [evalFA, toO_ok h h1, toO_ok h h2, toO_ok h h3] <;> rfl)
    · cases hf
  case box t x => obtain ⟨o, rfl, e⟩ := one hf; (simp only [evalFA, e] <;> rfl)
  case build t ps =>
    simp only [Option.map_eq_some_iff] at hf
    obtain ⟨os, h1, rfl⟩ := hf
    (simp only [evalFA, toPs_ok h h1] <;> rfl)
  case buildSlice t n ps =>
    simp only [Option.map_eq_some_iff] at hf
    obtain ⟨os, h1, rfl⟩ := hf
    (simp only [evalFA, toPs_ok h h1] <;> rfl)
  case load t a => obtain ⟨o, rfl, e⟩ := one hf; (simp only [evalFA, e] <;> rfl)
  case store t a x =>
    split at hf
    · rename_i h1 h2
      cases hf
      (simp only [evalFA, toO_ok h h1, toO_ok h h2] <;> rfl)
    · cases hf
  case nilCheck x => obtain ⟨o, rfl, e⟩ := one hf; (simp only [evalFA, e] <;> rfl)
  case binOp op t x y _ =>
    split at hf
    · rename_i h1 h2
      cases hf
      (simp only [evalFA, toO_ok h h1, toO_ok h h2, binB_eq] <;> rfl)
    · cases hf
  case unOp op _ x => obtain ⟨o, rfl, e⟩ := one hf; (simp only [evalFA, e] <;> rfl)
  case convert a b x => obtain ⟨o, rfl, e⟩ := one hf; (simp only [evalFA, e] <;> rfl)
  case makeInterface t x => obtain ⟨o, rfl, e⟩ := one hf; (simp only [evalFA, e] <;> rfl)
  case makeFunc f first cs =>
    cases f with
    | func f =>
      simp only at hf
      split at hf
      · rename_i h0
        simp only [Option.map_eq_some_iff] at hf
        obtain ⟨os, h1, rfl⟩ := hf
        (simp only [evalFA, toOs_ok h h1, h0, if_true] <;> rfl)
      · cases hf
    | _ => cases hf
  case makeMap t r =>
    cases r with
    | none => cases hf; rfl
    | some _ => cases hf; rfl
  case range t x => obtain ⟨o, rfl, e⟩ := one (f := fun x => .ext (.range t) [x]) hf; (simp only [evalFA, List.map, e] <;> rfl)
  case next x b => obtain ⟨o, rfl, e⟩ := one (f := fun x => .ext (.next b) [x]) hf; (simp only [evalFA, List.map, e] <;> rfl)
  case entry x => obtain ⟨o, rfl, e⟩ := one (f := fun x => .ext .entry [x]) hf; (simp only [evalFA, List.map, e] <;> rfl)
  case mapEntry t x k =>
    split at hf
    · rename_i h1 h2
      cases hf
      (simp only [evalFA, List.map, toO_ok h h1, toO_ok h h2] <;> rfl)
    · cases hf
  case entryStore t x k y =>
    split at hf
    · rename_i h1 h2 h3
      cases hf
      (simp only [evalFA, List.map, toO_ok h h1, toO_ok h h2, toO_ok h h3] <;> rfl)
    · cases hf
  case makeSlice t n c =>
    split at hf
    · rename_i h1 h2
      cases hf
      (simp only [evalFA, List.map, toO_ok h h1, toO_ok h h2] <;> rfl)
    · cases hf
  case slice t x lo hi mx =>
    split at hf
    · rename_i h1 h2 h3 h4
      cases hf
      (simp only [evalFA, toO_ok h h1, toM_ok h h2, toM_ok h h3, toM_ok h h4] <;> rfl)
    · cases hf
  case fieldAddr t x k => obtain ⟨o, rfl, e⟩ := one hf; (simp only [evalFA, e] <;> rfl)
  case field t x k => obtain ⟨o, rfl, e⟩ := one hf; (simp only [evalFA, e] <;> rfl)
  case indexAddr t x i =>
    split at hf
    · rename_i h1 h2
      cases hf
      (simp only [evalFA, toO_ok h h1, toO_ok h h2] <;> rfl)
    · cases hf
  case index t x i =>
    split at hf
    · rename_i h1 h2
      cases hf
      (simp only [evalFA, toO_ok h h1, toO_ok h h2] <;> rfl)
    · cases hf
  case lookup t x i ok =>
    split at hf
    · rename_i h1 h2
      cases hf
      (simp only [evalFA, toO_ok h h1, toO_ok h h2] <;> rfl)
    · cases hf
  case mapUpdate t x i y =>
    split at hf
    · rename_i h1 h2 h3
      cases hf
      (simp only [evalFA, toO_ok h h1, toO_ok h h2, toO_ok h h3] <;> rfl)
    · cases hf
  case typeAssert x _ t ok => obtain ⟨o, rfl, e⟩ := one hf; (simp only [evalFA, e] <;> rfl)
  case extract x i => obtain ⟨o, rfl, e⟩ := one hf; (simp only [evalFA, e] <;> rfl)
  case call c =>
    cases hc : c.callee with
    | value f =>
      rw [hc] at hf
      cases f with
      | func f =>
        simp only [Option.map_eq_some_iff] at hf
        obtain ⟨os, h1, rfl⟩ := hf
        (simp only [evalFA, hc, calleeA, toOs_ok h h1, Option.map_some] <;> rfl)
      | tmp t =>
        simp only at hf
        split at hf
        · rename_i x as h1 h2
          cases hf
          have e1 : gO L V x = opA tm (.tmp t) := h t x h1
          simp only [evalFA, hc, calleeA, toOs_ok h h2, e1]
          cases opA tm (.tmp t) <;> simp [calleeV]
        · cases hf
      | const v => cases hf
      | global g => cases hf
    | invoke r n => rw [hc] at hf; cases hf; simp only [evalFA, hc]
    | builtin b =>
      rw [hc] at hf
      have hbx : (match c.argTypes.toList with
          | t :: _ => match builtinX b t with
            | some k => (toOs s c.args.toList).map (.ext k)
            | none => some .fail
          | [] => some .fail) = some fa → (match c.argTypes.toList with
          | t :: _ => (builtinX b t).bind fun k => extA E H k (c.args.toList.map (opA tm))
          | [] => Option.none) = evalFA E L V H fa := fun hf => by
        split at hf
        · split at hf
          · rename_i k hk
            simp only [Option.map_eq_some_iff] at hf
            obtain ⟨os, h1, rfl⟩ := hf
            simp only [hk, Option.bind_some, evalFA, toOs_ok h h1]
          · rename_i hk
            cases hf
            simp only [hk, Option.bind_none, evalFA]
        · cases hf
          simp only [evalFA]
      cases b <;> simp only at hf <;> try (simp only [hc]; exact hbx hf)
      case append =>
        split at hf
        · rename_i t t2 a x q1 q2
          split at hf
          · rename_i h1 h2
            cases hf
            (simp only [evalFA, hc, q1, q2, toO_ok h h1, toO_ok h h2] <;> rfl)
          · cases hf
        · cases hf
      case len =>
        split at hf
        · rename_i t x q1 q2
          obtain ⟨o, rfl, e⟩ := one hf
          (simp only [evalFA, hc, q1, q2, e] <;> rfl)
        · cases hf
      case max =>
        simp only [Option.map_eq_some_iff] at hf
        obtain ⟨os, h1, rfl⟩ := hf
        (simp only [evalFA, hc, toOs_ok h h1] <;> rfl)
      case min =>
        simp only [Option.map_eq_some_iff] at hf
        obtain ⟨os, h1, rfl⟩ := hf
        (simp only [evalFA, hc, toOs_ok h h1] <;> rfl)
end
end Go.Px
