/- The abstract machine: values without addresses, a heap of named rows, one operation's effect, code, calls by fuel. -/
import GoSem.Dispatch
import GoSem.Core.Machine
set_option linter.unusedVariables false
namespace Go.Px

inductive AV where
  | undef
  | bool (b : Bool)
  | int (k : IntKind) (n : Int)
  | str (s : List Nat)
  | sl (n : Nat) (cells : List AV) (full : Bool)
  | own (nm off n sz : Nat)
  | agg (cells : List AV)
  | tup (vs : List AV)
  | clo (f : FuncId) (caps : List AV)
  | yield (l : Nat)
  | nilFunc
  | nilIface
  | iface (t : TypeId) (v : AV)
  | ref (cells : List AV)
  | loc (nm off : Nat)
  | nilptr
  | map (nm : Nat)
  | nilmap
  /-- A number, not negative, of which the residue is known. -/
  | res (k : IntKind) (r M : Nat)
  deriving Inhabited

inductive TD where
  | bool | int (k : IntKind) | str | ptr (e : Nat) | slice (e : Nat) | array (n e : Nat) | map (k v : Nat)
  | struct (fs : List (Nat × Nat)) | func | iface | other
  deriving Inhabited

structure TyI where
  desc : TD
  size : Nat
  bytes : Nat
  zero : List AV
  deriving Inhabited

def TD.isAgg : TD → Bool
  | .array .. | .struct _ => true
  | _ => false

inductive AO where
  | dead
  | row (e : TypeId) (cs : List AV) (fr : Bool)
  | loop (state : LoopState) (pending : Option Code) (tmps : List AV) (params : List Nat) (assign body : Code)
  /-- Its entries, when each was born, its clock. -/
  | map (kt vt : TypeId) (es : List (AV × AV)) (bs : List Nat) (ck : Nat)
  /-- A walk over a map (none: over nil). -/
  | iter (mp : Option Nat) (since : Nat) (seen : List Nat) (last : Nat)
  deriving Inhabited

abbrev Heap := List AO

inductive Tgt where
  | func (f : FuncId)
  | yield (l : Nat)
  deriving Inhabited

/-- What an operation reads and writes: names of objects; 'all': everything. -/
structure Acc where
  rd : List Nat
  wr : List Nat
  all : Bool
  deriving Inhabited

def Acc.none : Acc := ⟨[], [], false⟩
def Acc.read (nm : Nat) : Acc := ⟨[nm], [], false⟩

inductive Eff where
  | val (v : AV)
  | new (o : AO) (v : Nat → AV)
  | put (nm : Nat) (o : AO) (v : AV)
  | app (nm : Nat) (o : AO) (n sz : Nat)
  | call (t : Tgt) (args : List AV)

structure Env where
  ty : Nat → Option TyI
  fn : Nat → Option Func
  pure : Nat → Bool
  /-- Functions whose effect is told. -/
  prim : Nat → List AV → Option (Heap → Option (Eff × Acc))

/-! ### values -/
def ofVal1 : Value → AV
  | .bool b => .bool b
  | .int k n => .int k n
  | .string s => .str (s.data.toList.map UInt8.toNat)
  | .slice Option.none 0 0 => .sl 0 [] true
  | .pointer Option.none => .nilptr
  | .nilFunc => .nilFunc
  | .nilIface => .nilIface
  | .map Option.none => .nilmap
  | .iface t (.int k n) => .iface t (.int k n)
  | .iface t (.string s) => .iface t (.str (s.data.toList.map UInt8.toNat))
  | _ => .undef

/-- A value of one cell. -/
def one : AV → Bool
  | .undef | .agg _ | .tup _ => false
  | _ => true

def ofVal : Value → AV
  | .agg cs => if (cs.toList.map ofVal1).all one then .agg (cs.toList.map ofVal1) else .undef
  | v => ofVal1 v

def cellsOf : AV → List AV
  | .agg cs => cs
  | .undef => []
  | .tup _ => []
  | v => [v]

def mkV (agg : Bool) (cs : List AV) : Option AV :=
  if agg then some (.agg cs) else match cs with
    | [v] => some v
    | _ => Option.none

def opA (tm : List AV) : Operand → AV
  | .tmp t => tm.getD t .undef
  | .const v => ofVal v
  | .func f => .clo f []
  | .global _ => .undef

/-! ### rows -/
def loadA (E : Env) (H : Heap) (t : TypeId) (p : AV) : Option (AV × Acc) := do
  let i ← E.ty t
  match p with
  | .ref cs => if i.size ≤ cs.length then return (← mkV i.desc.isAgg (cs.take i.size), Acc.none) else Option.none
  | .loc nm off =>
    match H[nm]? with
    | some (.row e cs _) => if off + i.size ≤ cs.length then return (← mkV i.desc.isAgg ((cs.drop off).take i.size), Acc.read nm) else Option.none
    | _ => Option.none
  | _ => Option.none

/-- 'xs' with 'ys' laid over it from place 'off' on. -/
def lay (xs : List AV) (off : Nat) (ys : List AV) : List AV := xs.take off ++ ys ++ xs.drop (off + ys.length)

def storeA (E : Env) (H : Heap) (t : TypeId) (p v : AV) : Option (Eff × Acc) := do
  let i ← E.ty t
  match p with
  | .loc nm off =>
    match H[nm]? with
    | some (.row e cs false) =>
      if (cellsOf v).length = i.size ∧ off + i.size ≤ cs.length ∧ i.size ≠ 0 then return (.put nm (.row e (lay cs off (cellsOf v)) false) (.tup []), ⟨[], [nm], false⟩) else Option.none
    | _ => Option.none
  | _ => Option.none

def fieldAddrA (E : Env) (t : TypeId) (p : AV) (k : Nat) : Option AV := do
  let i ← E.ty t
  let .struct fs := i.desc | Option.none
  let (off, ft) ← fs[k]?
  let fi ← E.ty ft
  if fi.size = 0 then Option.none else
  match p with
  | .ref cs => if off < cs.length then return .ref (cs.drop off) else Option.none
  | .loc nm o => return .loc nm (o + off)
  | _ => Option.none

def indexAddrA (E : Env) (t : TypeId) (x ix : AV) : Option AV := do
  let i ← E.ty t
  let .int _ n := ix | Option.none
  match i.desc, x with
  | .slice e, .sl len cs _ =>
    let ei ← E.ty e
    if 0 ≤ n ∧ n < len ∧ n.toNat * ei.size < cs.length then return .ref (cs.drop (n.toNat * ei.size)) else Option.none
  | .slice e, .own nm off len sz =>
    let ei ← E.ty e
    if 0 ≤ n ∧ n < len ∧ sz = ei.size then return .loc nm (off + n.toNat * ei.size) else Option.none
  | .array len e, .ref cs =>
    let ei ← E.ty e
    if 0 ≤ n ∧ n < len ∧ n.toNat * ei.size < cs.length then return .ref (cs.drop (n.toNat * ei.size)) else Option.none
  | .array len e, .loc nm off =>
    let ei ← E.ty e
    if 0 ≤ n ∧ n < len then return .loc nm (off + n.toNat * ei.size) else Option.none
  | _, _ => Option.none

def fieldA (E : Env) (t : TypeId) (x : AV) (k : Nat) : Option AV := do
  let i ← E.ty t
  let .struct fs := i.desc | Option.none
  let (off, ft) ← fs[k]?
  let fi ← E.ty ft
  let .agg cs := x | Option.none
  if off + fi.size ≤ cs.length then mkV fi.desc.isAgg ((cs.drop off).take fi.size) else Option.none

def indexA (E : Env) (t : TypeId) (x ix : AV) : Option AV := do
  let i ← E.ty t
  let .int _ n := ix | Option.none
  match i.desc, x with
  | .str, .str s => if 0 ≤ n then (s[n.toNat]?).map fun (b : Nat) => AV.int .u8 b else Option.none
  | .array len e, .agg cs =>
    let ei ← E.ty e
    if 0 ≤ n ∧ n < len ∧ n.toNat * ei.size + ei.size ≤ cs.length then mkV ei.desc.isAgg ((cs.drop (n.toNat * ei.size)).take ei.size) else Option.none
  | _, _ => Option.none

/-- A bound of a slice expression. -/
def boundA (x : Option AV) (dflt most : Nat) : Option Nat :=
  match x with
  | Option.none => some dflt
  | some (.int _ n) => if 0 ≤ n ∧ n ≤ most then some n.toNat else Option.none
  | _ => Option.none

def sliceA (E : Env) (t : TypeId) (x : AV) (lo hi mx : Option AV) : Option AV := do
  let i ← E.ty t
  match i.desc, x with
  | .str, .str s =>
    if mx.isSome then Option.none else
    let h ← boundA hi s.length s.length
    let l ← boundA lo 0 h
    return .str ((s.take h).drop l)
  | .slice e, .sl n cs full =>
    let ei ← E.ty e
    if cs.length ≠ n * ei.size then Option.none else
    match mx with
    | Option.none =>
      let h ← boundA hi n n
      let l ← boundA lo 0 h
      return .sl (h - l) ((cs.take (h * ei.size)).drop (l * ei.size)) (full && h == n)
    | some m =>
      let m ← boundA (some m) 0 n
      let h ← boundA hi 0 m
      if hi.isNone then Option.none else
      let l ← boundA lo 0 h
      return .sl (h - l) ((cs.take (h * ei.size)).drop (l * ei.size)) (h == m)
  | .slice e, .own nm off n sz =>
    let ei ← E.ty e
    if mx.isSome ∨ sz ≠ ei.size then Option.none else
    let h ← boundA hi n n
    let l ← boundA lo 0 h
    return .own nm (off + l * ei.size) (h - l) sz
  | _, _ => Option.none

def byteV (b : Nat) : AV := .int .u8 b

/-- The content of a slice (or string) as cells, how many elements; the types of rows that were read. -/
def contentA (H : Heap) (sz : Nat) : AV → Option (Nat × List AV × Acc)
  | .sl n cs _ => if cs.length = n * sz then some (n, cs, Acc.none) else Option.none
  | .own nm off n sz' =>
    match H[nm]? with
    | some (.row e cs _) => if sz' = sz ∧ off + n * sz ≤ cs.length then some (n, (cs.drop off).take (n * sz), Acc.read nm) else Option.none
    | _ => Option.none
  | .str s => if sz = 1 then some (s.length, s.map byteV, Acc.none) else Option.none
  | _ => Option.none

/-- The most bytes of a row that is appended to. -/
def mostBytes : Nat := 35184372088832

def appendA0 (E : Env) (H : Heap) (t : TypeId) (s x : AV) : Option (Eff × Acc) := do
  let i ← E.ty t
  let .slice e := i.desc | Option.none
  let ei ← E.ty e
  let (k, new, acc) ← contentA H ei.size x
  if ei.size = 0 then Option.none else
  if k = 0 then
    match s with
    | .sl n cs f => return (.val (.sl n cs f), acc)
    | .own nm off n sz => return (.val (.own nm off n sz), acc)
    | _ => Option.none
  else match s with
    | .sl n cs true =>
      if cs.length = n * ei.size ∧ (n + k) * ei.bytes ≤ mostBytes ∧ n + k ≤ mostBytes then return (.new (.row e (cs ++ new) false) (fun nm => .own nm 0 (n + k) ei.size), acc) else Option.none
    | .own nm off n sz =>
      if sz ≠ ei.size then Option.none else
      match H[nm]? with
      | some (.row e' cs fr) =>
        if e' = e ∧ off + n * ei.size = cs.length ∧ (n + k) * ei.bytes ≤ mostBytes ∧ n + k ≤ mostBytes then
          return (.app nm (.row e (cs.drop off ++ new) fr) (n + k) ei.size, ⟨acc.rd, [nm], false⟩)
        else Option.none
      | _ => Option.none
    | _ => Option.none

def countA : AV → Nat
  | .sl n _ _ => n
  | .own _ _ n _ => n
  | .str s => s.length
  | _ => 0

/-- An append behind the first of a row's elements: the others are forgotten first. -/
def appendA (E : Env) (H : Heap) (t : TypeId) (s x : AV) : Option (Eff × Acc) :=
  if countA x = 0 then appendA0 E H t s x else
  match s with
  | .own nm off n sz => match H[nm]? with
    | some (.row e cs false) => if off + n * sz < cs.length then appendA0 E (H.set nm (.row e (cs.take (off + n * sz)) false)) t s x else appendA0 E H t s x
    | _ => appendA0 E H t s x
  | _ => appendA0 E H t s x

/-! ### composite values -/
def fillA (place : Nat → Option (Nat × Nat)) (cells : List AV) : List (Nat × AV) → Option (List AV)
  | [] => some cells
  | (i, v) :: rest =>
    match place i with
    | Option.none => Option.none
    | some (off, size) => if (cellsOf v).length ≠ size ∨ off + size > cells.length ∨ size = 0 then Option.none else fillA place (lay cells off (cellsOf v)) rest

def buildA (E : Env) (t : TypeId) (parts : List (Nat × AV)) : Option AV := do
  let i ← E.ty t
  match i.desc with
  | .struct fs => return .agg (← fillA (fun k => do let (off, ft) ← fs[k]?; let fi ← E.ty ft; return (off, fi.size)) i.zero parts)
  | .array _ e =>
    let ei ← E.ty e
    return .agg (← fillA (fun k => some (k * ei.size, ei.size)) i.zero parts)
  | _ => Option.none

def zerosA (zero : List AV) : Nat → List AV
  | 0 => []
  | n + 1 => zero ++ zerosA zero n

def buildSliceA (E : Env) (t : TypeId) (len : Nat) (parts : List (Nat × AV)) : Option Eff := do
  let i ← E.ty t
  let .slice e := i.desc | Option.none
  let ei ← E.ty e
  if len * ei.size > 65536 ∨ ei.size = 0 then Option.none else
  let cs ← fillA (fun k => some (k * ei.size, ei.size)) (zerosA ei.zero len) parts
  return .new (.row e cs false) (fun nm => .own nm 0 len ei.size)

/-! ### scalars -/
def intBin (op : BinOp) (k : IntKind) (a b : Int) : Option AV :=
  match op with
  | .add => some (.int k (k.wrap (a + b)))
  | .sub => some (.int k (k.wrap (a - b)))
  | .mul => some (.int k (k.wrap (a * b)))
  | .quo => if b = 0 then Option.none else some (.int k (k.wrap (a.tdiv b)))
  | .rem => if b = 0 then Option.none else some (.int k (a.tmod b))
  | .and => some (.int k (k.wrap (BitVec.ofInt k.bits a &&& BitVec.ofInt k.bits b).toNat))
  | .or => some (.int k (k.wrap (BitVec.ofInt k.bits a ||| BitVec.ofInt k.bits b).toNat))
  | .xor => some (.int k (k.wrap (BitVec.ofInt k.bits a ^^^ BitVec.ofInt k.bits b).toNat))
  | .andNot => some (.int k (k.wrap (BitVec.ofInt k.bits a &&& ~~~ BitVec.ofInt k.bits b).toNat))
  | .eql => some (.bool (a == b))
  | .neq => some (.bool (a != b))
  | .lss => some (.bool (a < b))
  | .leq => some (.bool (a ≤ b))
  | .gtr => some (.bool (a > b))
  | .geq => some (.bool (a ≥ b))
  | _ => Option.none

/-- Go's '<' on strings. -/
def lessN : List Nat → List Nat → Bool
  | _, [] => false
  | [], _ :: _ => true
  | a :: x, b :: y => Nat.blt a b || (Nat.beq a b && lessN x y)

def strBin (op : BinOp) (x y : List Nat) : Option AV :=
  match op with
  | .add => if x.length + y.length ≤ mostBytes then some (.str (x ++ y)) else Option.none
  | .eql => some (.bool (x == y))
  | .neq => some (.bool !(x == y))
  | .lss => some (.bool (lessN x y))
  | .leq => some (.bool (lessN x y || x == y))
  | .gtr => some (.bool !(lessN x y || x == y))
  | .geq => some (.bool !(lessN x y))
  | _ => Option.none

/-- '==' of structs, field by field. -/
def eqFs (E : Env) (eq : TypeId → AV → AV → Option Bool) (xs ys : List AV) : List (Nat × Nat) → Option Bool
  | [] => some true
  | (off, ft) :: fs => do
    let fi ← E.ty ft
    if off + fi.size ≤ xs.length ∧ off + fi.size ≤ ys.length then
      let a ← mkV fi.desc.isAgg ((xs.drop off).take fi.size)
      let b ← mkV fi.desc.isAgg ((ys.drop off).take fi.size)
      if ← eq ft a b then eqFs E eq xs ys fs else some false
    else Option.none

/-- '==' by the type. -/
def eqA (E : Env) : Nat → TypeId → AV → AV → Option Bool
  | 0, _, _, _ => Option.none
  | d + 1, t, x, y => do
    let i ← E.ty t
    match i.desc, x, y with
    | .bool, .bool a, .bool b => some (a == b)
    | .int _, .int k a, .int k' b => if k = k' then some (a == b) else Option.none
    | .str, .str a, .str b => some (a == b)
    | .ptr _, .nilptr, .nilptr => some true
    | .ptr _, .nilptr, .ref _ => some false
    | .ptr _, .nilptr, .loc _ _ => some false
    | .ptr _, .ref _, .nilptr => some false
    | .ptr _, .loc _ _, .nilptr => some false
    | .func, .nilFunc, .nilFunc => some true
    | .func, .nilFunc, .clo _ _ => some false
    | .func, .clo _ _, .nilFunc => some false
    | .iface, .nilIface, .nilIface => some true
    | .iface, .nilIface, .iface _ _ => some false
    | .iface, .iface _ _, .nilIface => some false
    | .iface, .iface tx vx, .iface ty vy =>
      if tx ≠ ty then some false else match (E.ty tx).map TyI.desc, vx, vy with
        | some (.int _), .int k a, .int k' b => if k = k' then some (a == b) else Option.none
        | _, _, _ => Option.none
    | .struct fs, .agg xs, .agg ys => eqFs E (eqA E d) xs ys fs
    | .array n e, .agg xs, .agg ys => (E.ty e).bind fun ei => match ei.desc with
      | .int _ => eqFs E (eqA E d) xs ys ((List.range n).map fun k => (k * ei.size, e))
      | _ => Option.none
    | _, _, _ => Option.none

def isConstO : Operand → Bool
  | .const _ => true
  | _ => false

/-- What is reckoned of a residue. -/
def resA (op : BinOp) (k : IntKind) (r M : Nat) : AV → Option AV
  | .int k' c => match op with
    | .shr => if 0 ≤ c ∧ M % 2 ^ c.toNat = 0 ∧ c.toNat ≤ k.bits then some (.res k (r / 2 ^ c.toNat) (M / 2 ^ c.toNat)) else Option.none
    | .and => if k = k' ∧ (c = 1 ∧ M % 2 = 0 ∨ c = 3 ∧ M % 4 = 0) then some (.int k ((r % (c.toNat + 1) : Nat) : Int)) else Option.none
    | .rem => if k = k' ∧ 0 < c ∧ M % c.toNat = 0 then some (.int k ((r % c.toNat : Nat) : Int)) else Option.none
    | _ => Option.none
  | _ => Option.none

def binA0 (E : Env) (op : BinOp) (t : TypeId) (xo yo : Operand) (x y : AV) : Option AV :=
  match op, x, y with
  | .shl, .int k a, .int _ b => if b < 0 then Option.none else some (.int k (k.wrap (a * 2 ^ (min b.toNat k.bits))))
  | .shr, .int k a, .int _ b => if b < 0 then Option.none else some (.int k (a.fdiv (2 ^ (min b.toNat k.bits))))
  | _, .int k a, .int k' b => if k = k' then intBin op k a b else Option.none
  | _, .str a, .str b => strBin op a b
  | .eql, .nilIface, .nilIface => if isConstO xo || isConstO yo then (eqA E 20 t .nilIface .nilIface).map .bool else Option.none
  | .neq, .nilIface, .nilIface => if isConstO xo || isConstO yo then (eqA E 20 t .nilIface .nilIface).map fun b => .bool !b else Option.none
  | .eql, x, y => (eqA E 20 t x y).map .bool
  | .neq, x, y => (eqA E 20 t x y).map fun b => .bool !b
  | _, _, _ => Option.none

def binA (E : Env) (op : BinOp) (t : TypeId) (xo yo : Operand) (x y : AV) : Option AV :=
  match x with
  | .res k r M => resA op k r M y
  | x => binA0 E op t xo yo x y

def unA (op : UnOp) (x : AV) : Option AV :=
  match op, x with
  | .not, .bool b => some (.bool !b)
  | .neg, .int k n => some (.int k (k.wrap (0 - n)))
  | _, _ => Option.none

/-- Bytes, each a number of its own. -/
def bytesA : List AV → Option (List Nat)
  | [] => some []
  | .int .u8 n :: l => if 0 ≤ n ∧ n < 256 then (bytesA l).map (n.toNat :: ·) else Option.none
  | _ => Option.none

/-- Bytes to a string. -/
def bstrA (E : Env) (H : Heap) (e : TypeId) (x : AV) : Option (Eff × Acc) :=
  match (E.ty e).map TyI.desc, contentA H 1 x with
  | some (.int .u8), some (_, cs, acc) => (bytesA cs).map fun l => (.val (.str l), acc)
  | _, _ => Option.none

def convA (E : Env) (H : Heap) (src dst : TypeId) (x : AV) : Option (Eff × Acc) := do
  let i ← E.ty src
  let j ← E.ty dst
  match i.desc, j.desc, x with
  | .int _, .int k, .int _ n => return (.val (.int k (k.wrap n)), Acc.none)
  | .str, .str, .str s => return (.val (.str s), Acc.none)
  | .slice e, .str, .sl n cs f => bstrA E H e (.sl n cs f)
  | .slice e, .str, .own nm off n sz => bstrA E H e (.own nm off n sz)
  | _, _, _ => Option.none

def assertA (E : Env) (x : AV) (asserted : TypeId) (ok : Bool) : Option AV := do
  let j ← E.ty asserted
  match j.desc, x with
  | .iface, _ => Option.none
  | _, .iface t v => if t = asserted then return (if ok then .tup [v, .bool true] else v) else if ok then return .tup [← mkV j.desc.isAgg j.zero, .bool false] else Option.none
  | _, .nilIface => if ok then return .tup [← mkV j.desc.isAgg j.zero, .bool false] else Option.none
  | _, _ => Option.none

/-! ### maps -/
def keyEq : TD → AV → AV → Option Bool
  | .int _, .int j a, .int k b => if j = k then some (a == b) else Option.none
  | .str, .str a, .str b => some (a == b)
  | .bool, .bool a, .bool b => some (a == b)
  | _, _, _ => Option.none

def findA (d : TD) (k : AV) : List (AV × AV) → Nat → Option (Option (Nat × AV))
  | [], _ => some Option.none
  | (q, v) :: es, i => match keyEq d k q with
    | some true => some (some (i, v))
    | some false => findA d k es (i + 1)
    | Option.none => Option.none

def simpleKey : TD → Bool
  | .int _ | .str | .bool => true
  | _ => false

def lookupA (E : Env) (H : Heap) (t : TypeId) (m k : AV) (ok : Bool) : Option (AV × Acc) := do
  let i ← E.ty t
  let .map kt vt := i.desc | Option.none
  let ki ← E.ty kt
  let vi ← E.ty vt
  if !simpleKey ki.desc then Option.none else
  let (es, acc) ← match m with
    | .nilmap => some ([], Acc.none)
    | .map nm => match H[nm]? with
      | some (.map kt' _ es _ _) => if kt' = kt then some (es, Acc.read nm) else Option.none
      | _ => Option.none
    | _ => Option.none
  match ← findA ki.desc k es 0 with
  | some (_, v) => return (if ok then .tup [v, .bool true] else v, acc)
  | Option.none =>
    let z ← mkV vi.desc.isAgg vi.zero
    return (if ok then .tup [z, .bool false] else z, acc)

def updateA (E : Env) (H : Heap) (t : TypeId) (m k v : AV) : Option (Eff × Acc) :=
  (E.ty t).bind fun i => match i.desc with
  | .map kt _ => (E.ty kt).bind fun ki =>
    if simpleKey ki.desc then match m with
      | .map nm => match H[nm]? with
        | some (.map kt' vt' es bs ck) => if kt' = kt then
            match findA ki.desc k es 0 with
            | some (some (j, _)) => some (.put nm (.map kt' vt' (es.set j (k, v)) bs ck) (.tup []), ⟨[], [nm], false⟩)
            | some Option.none => some (.put nm (.map kt' vt' (es ++ [(k, v)]) (bs ++ [ck]) (ck + 1)) (.tup []), ⟨[], [nm], false⟩)
            | Option.none => Option.none
          else Option.none
        | _ => Option.none
      | _ => Option.none
    else Option.none
  | _ => Option.none

def lenA (E : Env) (H : Heap) (t : TypeId) (x : AV) : Option (AV × Acc) := do
  let i ← E.ty t
  match i.desc, x with
  | .str, .str s => return (.int .i64 s.length, Acc.none)
  | .slice _, .sl n _ _ => return (.int .i64 n, Acc.none)
  | .slice _, .own _ _ n _ => return (.int .i64 n, Acc.none)
  | .map _ _, .nilmap => return (.int .i64 0, Acc.none)
  | .map _ _, .map nm => match H[nm]? with
    | some (.map _ _ es _ _) => return (.int .i64 es.length, Acc.read nm)
    | _ => Option.none
  | _, _ => Option.none

def most2 (big : Bool) : AV → AV → Option AV
  | .int k p, .int _ q => some (.int k (if big then (if q > p then q else p) else (if q < p then q else p)))
  | _, _ => Option.none

def mostA (big : Bool) : List AV → Option AV
  | [] => Option.none
  | x :: rest => rest.foldlM (most2 big) x

/-! ### more operations -/
inductive XK where
  | range (t : TypeId) | next (isS : Bool) | entry | mapEntry (t : TypeId) | entryStore | delete (t : TypeId) | makeSlice (t : TypeId) | cap (t : TypeId) | clear (t : TypeId)
  /-- So many zeros behind a slice that has no room. -/
  | appendZ (t : TypeId)
  deriving Inhabited

def xRange (E : Env) (H : Heap) (t : TypeId) : List AV → Option (Eff × Acc)
  | [.nilmap] => (E.ty t).bind fun i => match i.desc with
    | .map _ _ => some (.new (.iter Option.none 0 [] 0) (fun nm => .loc nm 0), Acc.none)
    | _ => Option.none
  | [.map m] => (E.ty t).bind fun i => match i.desc, H[m]? with
    | .map _ _, some (.map _ _ _ _ ck) => some (.new (.iter (some m) ck [] ck) (fun nm => .loc nm 0), ⟨[], [m], false⟩)
    | _, _ => Option.none
  | _ => Option.none

/-- The entries that a walk hasn't met. -/
def leftA (seen : List Nat) : List (AV × AV) → List Nat → List (AV × AV × Nat)
  | (k, v) :: es, b :: bs => if seen.any fun x => Nat.beq x b then leftA seen es bs else (k, v, b) :: leftA seen es bs
  | _, _ => []

def xNext (H : Heap) : List AV → Option (Eff × Acc)
  | [.loc nm 0] => match H[nm]? with
    | some (.iter Option.none _ _ _) => some (.val (.tup [.bool false]), ⟨[], [nm], false⟩)
    | some (.iter (some mn) since seen last) => match H[mn]? with
      | some (.map _ _ es bs ck) =>
        if !seen.isEmpty && !bs.isEmpty && bs.all (fun b => Nat.ble last b) then Option.none else
        match leftA seen es bs with
        | [] => some (.val (.tup [.bool false]), ⟨[], [nm, mn], false⟩)
        | [(k, v, b)] => if Nat.blt b since then some (.put nm (.iter (some mn) since (seen ++ [b]) ck) (.tup [.bool true, k, v]), ⟨[], [nm, mn], false⟩) else Option.none
        | _ => Option.none
      | _ => Option.none
    | _ => Option.none
  | _ => Option.none

def bornA (stamp : Nat) : List (AV × AV) → List Nat → Nat → Option (Nat × AV × AV)
  | (k, v) :: es, b :: bs, i => if Nat.beq b stamp then some (i, k, v) else bornA stamp es bs (i + 1)
  | _, _, _ => Option.none

def xEntry (H : Heap) : List AV → Option (Eff × Acc)
  | [.loc nm 0] => match H[nm]? with
    | some (.iter (some mn) _ seen last) => match H[mn]?, seen.getLast? with
      | some (.map _ _ es bs ck), some stamp => if Nat.beq ck last then (bornA stamp es bs 0).map fun (_, k, v) => (.val (.tup [k, v]), ⟨[], [nm, mn], false⟩) else Option.none
      | _, _ => Option.none
    | _ => Option.none
  | _ => Option.none

def xMapEntry (E : Env) (H : Heap) (t : TypeId) : List AV → Option (Eff × Acc)
  | [.map nm, k] => (E.ty t).bind fun i => match i.desc with
    | .map kt vt => (E.ty kt).bind fun ki => (E.ty vt).bind fun vi => if simpleKey ki.desc then match H[nm]? with
      | some (.map kt' vt' es bs ck) => if kt' = kt then match findA ki.desc k es 0 with
          | some (some (j, v)) => some (.put nm (.map kt' vt' (es.set j (k, v)) bs ck) (.tup [v, .int .i64 (bs.getD j 0 : Nat)]), ⟨[], [nm], false⟩)
          | some Option.none => (mkV vi.desc.isAgg vi.zero).bind fun z => some (.put nm (.map kt' vt' (es ++ [(k, z)]) (bs ++ [ck]) (ck + 1)) (.tup [z, .int .i64 (ck : Nat)]), ⟨[], [nm], false⟩)
          | Option.none => Option.none
        else Option.none
      | _ => Option.none
      else Option.none
    | _ => Option.none
  | _ => Option.none

def xEntryStore (H : Heap) : List AV → Option (Eff × Acc)
  | [.map nm, .int _ n, v] => match H[nm]? with
    | some (.map kt vt es bs ck) => if 0 ≤ n then (bornA n.toNat es bs 0).map fun (j, k, _) => (.put nm (.map kt vt (es.set j (k, v)) bs ck) (.tup []), ⟨[], [nm], false⟩) else Option.none
    | _ => Option.none
  | _ => Option.none

def xDelete (E : Env) (H : Heap) (t : TypeId) : List AV → Option (Eff × Acc)
  | [.map nm, k] => (E.ty t).bind fun i => match i.desc with
    | .map kt vt => (E.ty kt).bind fun ki => if simpleKey ki.desc then match H[nm]? with
      | some (.map kt' vt' es bs ck) => if kt' = kt then match findA ki.desc k es 0 with
          | some (some (j, _)) => some (.put nm (.map kt' vt' (es.eraseIdx j) (bs.eraseIdx j) ck) (.tup []), ⟨[], [nm], false⟩)
          | some Option.none => some (.put nm (.map kt' vt' es bs ck) (.tup []), ⟨[], [nm], false⟩)
          | Option.none => Option.none
        else Option.none
      | _ => Option.none
      else Option.none
    | _ => Option.none
  | _ => Option.none

def xMakeSlice (E : Env) (t : TypeId) : List AV → Option (Eff × Acc)
  | [.int _ n, .int _ c] => (E.ty t).bind fun i => match i.desc with
    | .slice e => (E.ty e).bind fun ei => if 0 ≤ n ∧ n ≤ c ∧ c * ei.bytes ≤ mostBytes ∧ c ≤ mostBytes ∧ ei.size ≠ 0 then
        some (.new (.row e (zerosA ei.zero c.toNat) false) (fun nm => .own nm 0 n.toNat ei.size), Acc.none) else Option.none
    | _ => Option.none
  | _ => Option.none

def xCap (E : Env) (t : TypeId) : List AV → Option (Eff × Acc)
  | [.sl n _ true] => (E.ty t).bind fun i => match i.desc with
    | .slice _ => some (.val (.int .i64 n), Acc.none)
    | _ => Option.none
  | _ => Option.none

def xClear (E : Env) (H : Heap) (t : TypeId) : List AV → Option (Eff × Acc)
  | [.sl 0 _ _] => (E.ty t).bind fun i => match i.desc with
    | .slice _ => some (.val (.tup []), Acc.none)
    | _ => Option.none
  | [.own nm off n sz] => (E.ty t).bind fun i => match i.desc with
    | .slice e => (E.ty e).bind fun ei => if n = 0 then some (.val (.tup []), Acc.none) else match H[nm]? with
      | some (.row e' cs false) => if sz = ei.size ∧ off + n * sz ≤ cs.length ∧ ei.size ≠ 0 then some (.put nm (.row e' (lay cs off (zerosA ei.zero n)) false) (.tup []), ⟨[], [nm], false⟩) else Option.none
      | _ => Option.none
    | _ => Option.none
  | _ => Option.none

def xAppendZ (E : Env) (t : TypeId) : List AV → Option (Eff × Acc)
  | [.sl 0 [] true, .int _ n] => (E.ty t).bind fun i => match i.desc with
    | .slice e => (E.ty e).bind fun ei => if 0 < n ∧ n * ei.bytes ≤ mostBytes ∧ n ≤ mostBytes ∧ ei.size ≠ 0 then
        some (.new (.row e (zerosA ei.zero n.toNat) false) (fun nm => .own nm 0 n.toNat ei.size), Acc.none) else Option.none
    | _ => Option.none
  | _ => Option.none

def extA (E : Env) (H : Heap) (k : XK) (xs : List AV) : Option (Eff × Acc) :=
  match k with
  | .range t => xRange E H t xs
  | .next isS => if isS then Option.none else xNext H xs
  | .entry => xEntry H xs
  | .mapEntry t => xMapEntry E H t xs
  | .entryStore => xEntryStore H xs
  | .delete t => xDelete E H t xs
  | .makeSlice t => xMakeSlice E t xs
  | .cap t => xCap E t xs
  | .clear t => xClear E H t xs
  | .appendZ t => xAppendZ E t xs

/-- Which of these a call of a builtin is. -/
def builtinX (b : Builtin) (t : TypeId) : Option XK :=
  match b with
  | .delete => some (.delete t)
  | .cap => some (.cap t)
  | .clear => some (.clear t)
  | _ => Option.none

/-! ### one operation -/
def calleeA (tm : List AV) : Operand → Option (Tgt × List AV)
  | .func f => some (.func f, [])
  | x => match opA tm x with
    | .clo f caps => some (.func f, caps)
    | .yield l => some (.yield l, [])
    | _ => Option.none

def evalOp (E : Env) (tm : List AV) (H : Heap) (o : Oper) : Option (Eff × Acc) :=
  let ρ := opA tm
  let v (x : Option AV) : Option (Eff × Acc) := x.map fun x => (.val x, Acc.none)
  let va (x : Option (AV × Acc)) : Option (Eff × Acc) := x.map fun (x, a) => (.val x, a)
  match o.op with
  | .move x | .assign x => v (some (ρ x))
  | .pick c a b => match ρ c with
    | .bool c => v (some (if c then ρ a else ρ b))
    | _ => Option.none
  | .alloc t => (E.ty t).bind fun i => some (.new (.row t i.zero false) (fun nm => .loc nm 0), Acc.none)
  | .box t x => (E.ty t).bind fun _ => some (.new (.row t (cellsOf (ρ x)) false) (fun nm => .loc nm 0), Acc.none)
  | .build t parts => v (buildA E t (parts.toList.map fun (i, x) => (i, ρ x)))
  | .buildSlice t len parts => (buildSliceA E t len (parts.toList.map fun (i, x) => (i, ρ x))).map (·, Acc.none)
  | .load t a => va (loadA E H t (ρ a))
  | .store t a x => storeA E H t (ρ a) (ρ x)
  | .nilCheck x => match ρ x with
    | .ref cs => v (some (.ref cs))
    | .loc nm off => v (some (.loc nm off))
    | .clo f caps => v (some (.clo f caps))
    | _ => Option.none
  | .binOp op t x y _ => v (binA E op t x y (ρ x) (ρ y))
  | .unOp op _ x => v (unA op (ρ x))
  | .convert src dst x => convA E H src dst (ρ x)
  | .makeInterface t x => (E.ty t).bind fun i => match i.desc with
    | .iface => Option.none
    | _ => v (some (.iface t (ρ x)))
  | .makeFunc (.func f) first captured => if first.size = 0 then v (some (.clo f (captured.toList.map ρ))) else Option.none
  | .makeMap t Option.none => (E.ty t).bind fun i => match i.desc with
    | .map k e => some (.new (.map k e [] [] 0) (fun nm => .map nm), Acc.none)
    | _ => Option.none
  | .slice t x lo hi mx => v (sliceA E t (ρ x) (lo.map ρ) (hi.map ρ) (mx.map ρ))
  | .fieldAddr t x k => v (fieldAddrA E t (ρ x) k)
  | .field t x k => v (fieldA E t (ρ x) k)
  | .indexAddr t x i => v (indexAddrA E t (ρ x) (ρ i))
  | .index t x i => v (indexA E t (ρ x) (ρ i))
  | .lookup t x i ok => va (lookupA E H t (ρ x) (ρ i) ok)
  | .mapUpdate t x i y => updateA E H t (ρ x) (ρ i) (ρ y)
  | .typeAssert x _ t ok => v (assertA E (ρ x) t ok)
  | .extract t i => match ρ t with
    | .tup vs => v (vs[i]?)
    | _ => Option.none
  | .call c =>
    match c.callee with
    | .value f => (calleeA tm f).map fun (t, caps) => (.call t (c.args.toList.map ρ ++ caps), Acc.none)
    | .builtin .len => match c.argTypes.toList, c.args.toList with
      | [t], [x] => va (lenA E H t (ρ x))
      | _, _ => Option.none
    | .builtin .append => match c.argTypes.toList, c.args.toList with
      | [t, t2], [s, x] => (E.ty t2).bind fun i => match i.desc with
        | .slice _ | .str => appendA E H t (ρ s) (ρ x)
        | .int _ => extA E H (.appendZ t) [ρ s, ρ x]
        | _ => Option.none
      | _, _ => Option.none
    | .builtin .min => v (mostA false (c.args.toList.map ρ))
    | .builtin .max => v (mostA true (c.args.toList.map ρ))
    | .builtin b => match c.argTypes.toList with
      | t :: _ => (builtinX b t).bind fun k => extA E H k (c.args.toList.map ρ)
      | [] => Option.none
    | _ => Option.none
  | .range t x => extA E H (.range t) [ρ x]
  | .next x isS => extA E H (.next isS) [ρ x]
  | .entry x => extA E H .entry [ρ x]
  | .mapEntry t x k => extA E H (.mapEntry t) [ρ x, ρ k]
  | .entryStore _ x k y => extA E H .entryStore [ρ x, ρ k, ρ y]
  | .makeSlice t n c => extA E H (.makeSlice t) [ρ n, ρ c]
  | _ => Option.none

/-! ### forcing: 'f.. v c' is 'c v', with v in its normal form for whoever reckons -/
section force
variable {α : Type}
def fN (n : Nat) (c : Nat → α) : α := match n with
  | 0 => c 0
  | m + 1 => c (m + 1)
def fI (n : Int) (c : Int → α) : α := match n with
  | .ofNat m => fN m fun m => c (.ofNat m)
  | .negSucc m => fN m fun m => c (.negSucc m)
def fB (b : Bool) (c : Bool → α) : α := match b with
  | true => c true
  | false => c false
def fLN : List Nat → (List Nat → α) → α
  | [], c => c []
  | n :: l, c => fN n fun n => fLN l fun l => c (n :: l)
/-- The spine alone. -/
def fS {β : Type} : List β → (List β → α) → α
  | [], c => c []
  | x :: l, c => fS l fun l => c (x :: l)
mutual
def fV : AV → (AV → α) → α
  | .undef, c => c .undef
  | .bool b, c => fB b fun b => c (.bool b)
  | .int k n, c => fI n fun n => c (.int k n)
  | .str s, c => fLN s fun s => c (.str s)
  | .sl n cs f, c => fN n fun n => fL cs fun cs => fB f fun f => c (.sl n cs f)
  | .own nm off n sz, c => fN nm fun nm => fN off fun off => fN n fun n => fN sz fun sz => c (.own nm off n sz)
  | .agg cs, c => fL cs fun cs => c (.agg cs)
  | .tup cs, c => fL cs fun cs => c (.tup cs)
  | .clo f cs, c => fN f fun f => fL cs fun cs => c (.clo f cs)
  | .yield l, c => fN l fun l => c (.yield l)
  | .nilFunc, c => c .nilFunc
  | .nilIface, c => c .nilIface
  | .iface t v, c => fV v fun v => c (.iface t v)
  | .ref cs, c => fL cs fun cs => c (.ref cs)
  | .loc nm off, c => fN nm fun nm => fN off fun off => c (.loc nm off)
  | .nilptr, c => c .nilptr
  | .map nm, c => fN nm fun nm => c (.map nm)
  | .nilmap, c => c .nilmap
  | .res k r M, c => fN r fun r => fN M fun M => c (.res k r M)
def fL : List AV → (List AV → α) → α
  | [], c => c []
  | v :: l, c => fV v fun v => fL l fun l => c (v :: l)
end
/-- A value out of what has been reckoned already: its outermost list alone. -/
def fW (v : AV) (c : AV → α) : α := match v with
  | .agg cs => fS cs fun cs => c (.agg cs)
  | .tup cs => fS cs fun cs => c (.tup cs)
  | .ref cs => fS cs fun cs => c (.ref cs)
  | .sl n cs f => fN n fun n => fS cs fun cs => fB f fun f => c (.sl n cs f)
  | .loc nm off => fN nm fun nm => fN off fun off => c (.loc nm off)
  | .own nm off n sz => fN nm fun nm => fN off fun off => fN n fun n => fN sz fun sz => c (.own nm off n sz)
  | v => c v
def fO (o : AO) (c : AO → α) : α := match o with
  | .row e cs fr => fL cs fun cs => fB fr fun fr => c (.row e cs fr)
  | o => c o
end force

/-! ### states -/
structure St where
  tm : List AV
  H : Heap
  deriving Inhabited

def putT (tm : List AV) : Option Tmp → AV → List AV
  | some d, v => tm.set d v
  | Option.none, _ => tm

abbrev CallT := Tgt → List AV → Heap → Option (AV × Heap × Acc)

/-- Where a new object goes: a name that was kept for it, or behind all. -/
def layNew (slot : Option Nat) (H : Heap) (o : AO) : Nat × Heap :=
  match slot with
  | some nm => (nm, H.set nm o)
  | Option.none => (H.length, H ++ [o])

def lightOp : Op → Bool
  | .move _ | .assign _ | .load .. | .extract .. | .pick .. | .nilCheck _ | .fieldAddr .. | .indexAddr .. | .field .. => true
  | _ => false

def done (o : Oper) (tm : List AV) (H : Heap) (acc : Acc) (v : AV) : Option (St × Acc) :=
  fS (putT tm o.dst v) fun tm => fS H fun H => some (⟨tm, H⟩, acc)

/-- The new object's name is written, too. -/
def Acc.add (acc : Acc) : Option Nat → Acc
  | some nm => ⟨acc.rd, nm :: acc.wr, acc.all⟩
  | Option.none => acc

def applyEff (call : CallT) (slot : Option Nat) (o : Oper) (st : St) (acc : Acc) : Eff → Option (St × Acc)
  | .val v => (if lightOp o.op then fW v else fV v) fun v => fS (putT st.tm o.dst v) fun tm => some (⟨tm, st.H⟩, acc)
  | .new ob f => fO ob fun ob => fV (f (layNew slot st.H ob).1) fun v => done o st.tm (layNew slot st.H ob).2 (acc.add slot) v
  | .put nm ob v => fO ob fun ob => fV v fun v => done o st.tm (st.H.set nm ob) acc v
  | .app nm ob n sz => fO ob fun ob => fV (.own (layNew slot (st.H.set nm .dead) ob).1 0 n sz) fun v => done o st.tm (layNew slot (st.H.set nm .dead) ob).2 (acc.add slot) v
  | .call t args => fS args fun args => match call t args st.H with
    | some (r, H, acc') => fV r fun r => done o st.tm H acc' r
    | Option.none => Option.none

/-- A function whose effect is told. -/
def primEff (E : Env) (H : Heap) (x : Eff × Acc) : Option (Eff × Acc) :=
  match x.1 with
  | .call (.func f) args => fS args fun args => match E.prim f args with
    | some p => p H
    | Option.none => some (.call (.func f) args, x.2)
  | _ => some x

def runOp (E : Env) (call : CallT) (slot : Option Nat) (o : Oper) (st : St) : Option (St × Acc) :=
  match evalOp E st.tm st.H o with
  | some x => match primEff E st.H x with
    | some (eff, acc) => applyEff call slot o st acc eff
    | Option.none => Option.none
  | Option.none => Option.none

/-- Is a guarded operation wanted? -/
def wantedA (ops : List Oper) (tm : List AV) (o : Oper) : Option Bool :=
  match o.guard with
  | Option.none => some true
  | some (j, want) => match (ops[j]?).bind (·.dst) with
    | some d => match tm.getD d .undef with
      | .bool b => some (b == want)
      | .tup _ => some false
      | _ => Option.none
    | Option.none => Option.none

def runOpG (E : Env) (call : CallT) (ops : List Oper) (slot : Option Nat) (o : Oper) (st : St) : Option (St × Acc) :=
  match wantedA ops st.tm o with
  | some true => runOp E call slot o st
  | some false => fS (putT st.tm o.dst (.tup [])) fun tm => some (⟨tm, st.H⟩, Acc.none)
  | Option.none => Option.none

def runOps (E : Env) (call : CallT) (ops : List Oper) : List Oper → St → Option St
  | [], st => some st
  | o :: rest, st => do
    let (st', _) ← runOpG E call ops Option.none o st
    runOps E call ops rest st'

/-! ### freezing -/
def fzL (f : AV → Option (AV × List Nat)) : List AV → Option (List AV × List Nat)
  | [] => some ([], [])
  | v :: vs => do
    let (x, ns) ← f v
    let (xs, ms) ← fzL f vs
    return (x :: xs, ns ++ ms)

/-- A value as it stands, without names; the names of the rows that it leads to. -/
def fz (E : Env) (H : Heap) : Nat → AV → Option (AV × List Nat)
  | 0, _ => Option.none
  | k + 1, v =>
    match v with
    | .own nm off n sz =>
      match H[nm]? with
      | some (.row _ cs _) =>
        if off + n * sz ≤ cs.length then do
          let (l, ns) ← fzL (fz E H k) cs
          return (.sl n ((l.drop off).take (n * sz)) false, nm :: ns)
        else Option.none
      | _ => Option.none
    | .loc nm off =>
      match H[nm]? with
      | some (.row _ cs _) =>
        if off < cs.length then do
          let (l, ns) ← fzL (fz E H k) cs
          return (.ref (l.drop off), nm :: ns)
        else Option.none
      | _ => Option.none
    | .agg cs => do let (l, ns) ← fzL (fz E H k) cs; return (.agg l, ns)
    | .tup cs => do let (l, ns) ← fzL (fz E H k) cs; return (.tup l, ns)
    | .clo f cs => do let (l, ns) ← fzL (fz E H k) cs; return (.clo f l, ns)
    | .iface t x => do let (x, ns) ← fz E H k x; return (.iface t x, ns)
    | .yield _ | .map _ | .undef => Option.none
    | v => some (v, [])

/-- A scalar, or a few of them: nothing of it lies in memory. -/
def flat1 : AV → Bool
  | .bool _ | .int _ _ | .str _ | .nilFunc | .nilIface | .nilptr | .nilmap | .res .. => true
  | _ => false

def flat : AV → Bool
  | .tup vs => vs.all flat1
  | .agg vs => vs.all flat1
  | .iface _ v => flat1 v
  | v => flat1 v

def markOne (H : Heap) (nm : Nat) : Heap :=
  match H[nm]? with
  | some (.row e cs _) => H.set nm (.row e cs true)
  | _ => H

def markAll (H : Heap) (ns : List Nat) : Heap := ns.foldl markOne H

/-- How deep a value is looked into. -/
def fzDeep : Nat := 60

/-! ### regions that draw their order -/
/-- For each operation those that Go puts ahead of it, as bits. -/
def befStep (acc : List Nat) (o : Oper) : List Nat :=
  fS (acc ++ [o.after.toList.foldl (fun m e => if Region.binds .any e then Nat.lor m (Nat.lor (Nat.pow 2 e.on) (acc.getD e.on 0)) else m) 0]) fun l => l

def beforeA (ops : List Oper) : List Nat := ops.foldl befStep []

def Acc.idle (a : Acc) : Bool := !a.all && a.rd.isEmpty && a.wr.isEmpty

def hitL (a b : List Nat) : Bool := a.any fun x => b.any fun y => Nat.beq x y

def Acc.meets (a b : Acc) : Bool :=
  if a.all then !b.idle
  else if b.all then !a.idle
  else hitL a.wr b.rd || hitL a.wr b.wr || hitL b.wr a.rd

/-- The temporaries that an operation looks at. -/
def looksL (ops : List Oper) (o : Oper) : List Nat :=
  (o.op.operands.toList.filterMap fun x => match x with
    | .tmp t => some t
    | _ => Option.none) ++
  (match o.guard with
   | some (g, _) => ((ops[g]?).bind (·.dst)).toList
   | Option.none => [])

def hitO : Option Nat → List Nat → Bool
  | some d, l => l.any fun x => Nat.beq x d
  | Option.none, _ => false

/-- Two operations leave each other's temporaries alone. -/
def sepA (ops : List Oper) (x y : Oper) : Bool :=
  !hitO x.dst (looksL ops y) && !hitO y.dst (looksL ops x) && !hitO x.dst y.dst.toList

/-- Edges lead back; what may stand either way leaves each other's temporaries alone. -/
def drawOk (ops : List Oper) : Bool :=
  let bef := beforeA ops
  (List.range ops.length).all fun i => match ops[i]? with
    | some o => o.after.toList.all (fun e => !Region.binds .any e || Nat.blt e.on i) && (List.range i).all fun j => match ops[j]? with
      | some q => (bef.getD i 0).testBit j || sepA ops o q
      | Option.none => true
    | Option.none => true

/-- No two operations that may stand either way touch each other's rows. -/
def apartA (bef : List Nat) (accs : List Acc) : Bool :=
  (List.range accs.length).all fun i => (List.range i).all fun j =>
    !(accs.getD j Acc.none).meets (accs.getD i Acc.none) || (bef.getD i 0).testBit j

/-- May an operation lay a new row? -/
def mayLay : Op → Bool
  | .alloc _ | .box .. | .buildSlice .. | .makeMap .. | .range .. | .makeSlice .. => true
  | .call c => match c.callee with
    | .builtin .append => true
    | .builtin _ => false
    | _ => true
  | _ => false

/-- How many of those ahead of the i-th may. -/
def rankA (ops : List Oper) (i : Nat) : Nat := ((ops.take i).filter fun o => mayLay o.op).length

/-- The name that is kept for what an operation lays. -/
def slotA (n0 : Nat) (ops : List Oper) (i : Nat) : Option Nat :=
  match ops[i]? with
  | some o => if mayLay o.op then some (n0 + rankA ops i) else Option.none
  | Option.none => Option.none

def runDraw (E : Env) (call : CallT) (ops : List Oper) (n0 : Nat) : List Oper → Nat → St → List Acc → Option (St × List Acc)
  | [], _, st, accs => some (st, accs)
  | o :: rest, i, st, accs => do
    let (st', acc) ← runOpG E call ops (slotA n0 ops i) o st
    runDraw E call ops n0 rest (i + 1) st' (accs ++ [acc])

def runRegion (E : Env) (call : CallT) (ops : List Oper) (draw : Bool) (st : St) : Option St :=
  if !draw then runOps E call ops ops st else do
    let n0 := st.H.length
    let (st', accs) ← runDraw E call ops n0 ops 0 { st with H := st.H ++ List.replicate (rankA ops ops.length) .dead } []
    if drawOk ops && apartA (beforeA ops) accs then return st' else Option.none

def memN (l : List Nat) (x : Nat) : Bool := l.any fun y => Nat.beq y x
def addN (l : List Nat) (x : Nat) : List Nat := if memN l x then l else l ++ [x]

/-- Those looked at ahead of being written in a region. -/
def exposed (ops : List Oper) : List Oper → List Nat → List Nat → List Nat × List Nat
  | [], W, X => (W, X)
  | o :: rest, W, X => exposed ops rest (match o.dst with
    | some d => d :: W
    | none => W) ((looksL ops o).foldl (fun X t => if memN W t then X else addN X t) X)

def varsC : Code → List Nat → List Nat → List Nat × List Nat
  | .region _ ops _, _, X => exposed ops.toList ops.toList [] X
  | .seq a b, W, X => match varsC a W X with
    | (W, X) => varsC b W X
  | .cond c a b, W, X => match varsC a W (match c with
      | .tmp t => if memN W t then X else addN X t
      | _ => X) with
    | (_, X) => match varsC b W X with
      | (_, X) => ([], X)
  | .block _ b, W, X => match varsC b W X with
    | (_, X) => ([], X)
  | .loop b, _, X => match varsC b [] X with
    | (_, X) => ([], X)
  | _, W, X => (W, X)

def meetW : Option (List Nat) → Option (List Nat) → Option (List Nat)
  | some a, some b => some (a.filter (memN b))
  | some a, Option.none => some a
  | Option.none, b => b

/-- Those that code may look at ahead of writing them: what has been written when it comes out, if it does. -/
def expC : Code → List Nat → List Nat → Option (List Nat) × List Nat
  | .region _ ops _, W, X => match exposed ops.toList ops.toList W X with
    | (W, X) => (some W, X)
  | .seq a b, W, X => match expC a W X with
    | (some W, X) => expC b W X
    | (Option.none, X) => (Option.none, X)
  | .cond c a b, W, X => match expC a W (match c with
      | .tmp t => if memN W t then X else addN X t
      | _ => X) with
    | (Wa, X) => match expC b W X with
      | (Wb, X) => (meetW Wa Wb, X)
  | .block _ b, W, X => match expC b W X with
    | (_, X) => (some W, X)
  | .loop b, W, X => match expC b W X with
    | (_, X) => (Option.none, X)
  | .exit _, _, X => (Option.none, X)
  | .ret, _, X => (Option.none, X)
  | .rangeFunc f ps asg body, W, X => match expC asg (ps.toList ++ W) (match f with
      | .tmp t => if memN W t then X else addN X t
      | _ => X) with
    | (some W1, X) => match expC body W1 X with
      | (_, X) => (some W, X)
    | (Option.none, X) => (some W, X)
  | _, W, X => (some W, X)

/-- The temporaries that a loop's code may look at ahead of writing them. -/
def liveC (ps : List Nat) (asg body : Code) : List Nat := match expC asg ps [] with
  | (some W, X) => (expC body W X).2
  | (Option.none, X) => X

/-- What a loop's code won't look at is left out. -/
def maskT (live : List Nat) : Nat → List AV → List AV
  | _, [] => []
  | i, x :: l => (if memN live i then x else .undef) :: maskT live (i + 1) l

/-! ### code -/
inductive AExit where
  | normal
  | exit (id : Nat)
  | ret
  deriving Inhabited

def loopN (f : St → Option (AExit × St)) : Nat → St → Option (AExit × St)
  | 0, _ => Option.none
  | k + 1, st => do
    let (e, st') ← f st
    match e with
    | .normal => loopN f k st'
    | e => return (e, st')

def evalC (E : Env) (call : CallT) (k : Nat) : Code → St → Option (AExit × St)
  | .skip, st => some (.normal, st)
  | .label _, st => some (.normal, st)
  | .region _ ops draw, st => (runRegion E call ops.toList draw st).map (.normal, ·)
  | .seq a b, st => do
    let (e, st') ← evalC E call k a st
    match e with
    | .normal => evalC E call k b st'
    | e => return (e, st')
  | .cond c a b, st => match opA st.tm c with
    | .bool true => evalC E call k a st
    | .bool false => evalC E call k b st
    | _ => Option.none
  | .block id b, st => do
    let (e, st') ← evalC E call k b st
    match e with
    | .exit i => if i = id then return (.normal, st') else return (.exit i, st')
    | e => return (e, st')
  | .loop b, st => loopN (evalC E call k b) k st
  | .exit id, st => some (.exit id, st)
  | .ret, st => some (.ret, st)
  | .rangeFunc f params assign body, st =>
    match opA st.tm f with
    | .clo g caps => do
      let l := st.H.length
      let (_, H, _) ← call (.func g) (.yield l :: caps) (st.H ++ [.loop .ready Option.none (maskT (liveC params.toList assign body) 0 st.tm) params.toList assign body])
      match H[l]? with
      | some (.loop s pend tm ps asg bd) =>
        if s == .busy then Option.none else
        let st' : St := ⟨st.tm, H.set l (.loop .exhausted pend tm ps asg bd)⟩
        match pend with
        | Option.none => return (.normal, st')
        | some .ret => return (.ret, st')
        | some (.exit id) => return (.exit id, st')
        | _ => Option.none
      | _ => Option.none
    | _ => Option.none
  | _, _ => Option.none

def resultA (E : Env) (st : St) : ResultVar → Option AV
  | .tmp t => some (st.tm.getD t .undef)
  | .cell a t => (loadA E st.H t (st.tm.getD a .undef)).map (·.1)

def resOf : List AV → AV
  | [r] => r
  | rs => .tup rs

def runBody (E : Env) (call : CallT) (k : Nat) (fn : Func) (args : List AV) (H : Heap) : Option (AV × Heap) := do
  let body ← fn.body
  let (e, st) ← evalC E call k body ⟨args ++ List.replicate (fn.ntmps - args.length) .undef, H⟩
  match e with
  | .exit _ => Option.none
  | _ =>
    let rs ← fn.results.toList.mapM (resultA E st)
    return (resOf rs, st.H)

def setAll (tm : List AV) : List Nat → List AV → List AV
  | p :: ps, v :: vs => setAll (tm.set p v) ps vs
  | _, _ => tm

def jumpOf : AExit → Option Code
  | .normal => Option.none
  | .exit id => some (.exit id)
  | .ret => some .ret

def callA (E : Env) : Nat → CallT
  | 0, _, _, _ => Option.none
  | k + 1, .func f, args, H =>
    do
    let fn ← E.fn f
    if E.pure f then
      let (fargs, ns) ← fzL (fz E H fzDeep) args
      let (r, H2) ← fL fargs fun fargs => runBody E (callA E k) k fn fargs []
      let (r', _) ← fz E H2 fzDeep r
      return (r', if flat r' then H else markAll H ns, ⟨ns, [], false⟩)
    else
      let (r, H2) ← runBody E (callA E k) k fn args H
      return (r, H2, ⟨[], [], true⟩)
  | k + 1, .yield l, args, H =>
    match H[l]? with
    | some (.loop .ready _ tm ps asg body) =>
      if args.length ≠ ps.length then Option.none else do
      let (e1, st1) ← evalC E (callA E k) k asg ⟨setAll tm ps args, H⟩
      match e1, st1.H[l]? with
      | .normal, some (.loop .ready pend tm' ps' asg' body') =>
        let (e2, st2) ← evalC E (callA E k) k body ⟨st1.tm, st1.H.set l (.loop .busy pend tm' ps' asg' body')⟩
        match st2.H[l]? with
        | some (.loop _ _ tm'' ps'' asg'' body'') =>
          let jump := jumpOf e2
          return (.bool jump.isNone, st2.H.set l (.loop (if jump.isNone then .ready else .done) jump tm'' ps'' asg'' body''), ⟨[], [], true⟩)
        | _ => Option.none
      | _, _ => Option.none
    | _ => Option.none

end Go.Px
